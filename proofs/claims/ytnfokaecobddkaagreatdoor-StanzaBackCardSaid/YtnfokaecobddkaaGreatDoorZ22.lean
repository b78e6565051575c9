/- Part 22 of a proof laid in parts, one behind the other; no condition of its own. -/
import Derived.Test.YtnfokaecobddkaaGreatDoorZ21
import Derived.Orders
set_option linter.all false
section
namespace Go.Proofs.YtnfokaecobddkaaGreatDoor.Clo
open Go.RowKit
set_option linter.unusedVariables false
set_option linter.unusedSimpArgs false
set_option linter.constructorNameAsVariable false
section
variable {P : Program} {G dt n : Nat} {ds : List (Option Nat)} {o : Oper}
theorem RW.shape {φ : Id → Option Plc} {h : Mem} {w : World} (hw : RW φ h w) {r : Id} {t : TypeId} {gr : Bool} {fz : Option Nat} {ro : Bool} {cells : AV} {g : Plc} (hr : h.get r = some (.row t gr fz ro cells)) (hg : φ r = some g) :
    ∃ K, w.shape? g.1 = some (t, K) ∧ cells.len ≤ K ∧ (gr = false → K = cells.len) := by
  obtain ⟨c, l, rest, m, e1, e2, e3, e4, _⟩ := hw.row hr hg
  refine ⟨c.size, by unfold World.shape?; rw [e1], ?_, fun hgr => ?_⟩
  · rw [← VL.len e3, ← Array.length_toList, e2, List.length_append]; omega
  · rw [← VL.len e3, ← Array.length_toList, e2, e4 hgr, List.append_nil]
theorem toUnsafe_ok {s t te : TypeId} {x : Operand} {i : TypeInfo} (ho : o.op = .convert s t x) (hs : P.underlying s = some (.pointer te)) (ht : P.underlying t = some .unsafePointer) (hi : P.info? te = some i) (hz : i.size ≠ 0) :
    StillOk P G dt n ds o (fun e t0 hp k => ((opd G dt n ds x).run e t0).on_p fun r q => hp.on fun mem _ => onRow mem r fun _ _ _ _ cells => match Nat.blt q cells.len with
      | true => k (.p r q) hp
      | false => none) :=
  fun e t0 hp k r hr => by
    obtain ⟨b, q, hb, h1⟩ := AV.on_p_some hr
    cases hp with
    | mk m nx =>
    obtain ⟨t1, gr, fz, ro, cells, hm, h2⟩ := onRow_some (show onRow m b _ = some r from h1)
    split at h2
    · rename_i hq
      have hq' : q < cells.len := by simpa [Nat.blt_eq] using hq
      refine ⟨_, h2, fun φ a w _ hx hw => ?_⟩
      obtain ⟨g, hg, e1⟩ : ∃ g, φ b = some g ∧ a.eval x = .pointer (some ⟨g.1, q, none⟩) := by have := hx x (by rw [ho]; simp [Op.operands]); rw [hb] at this; exact this
      obtain ⟨K, e2, e3, _⟩ := (show RW φ m w from hw).shape hm hg
      have hrun := Lib.run_to_unsafe (P := P) w ⟨g.1, q, none⟩ hs ht hi hz e2 (by show q < K; omega)
      refine ⟨.pointer (some ⟨g.1, q, none⟩), ?_, g, hg, rfl⟩
      unfold execOp
      simp only [ho, e1, Sem.run_bind, hrun, Result.andThen_ok]
      rfl
    · cases h2
theorem fromUnsafe_ok {s t u : TypeId} {x : Operand} {i : TypeInfo} (ho : o.op = .convert s t x) (hs : P.underlying s = some .unsafePointer) (ht : P.underlying t = some (.pointer u)) (hi : P.info? u = some i) :
    StillOk P G dt n ds o (fun e t0 hp k => ((opd G dt n ds x).run e t0).on_p fun r q => hp.on fun mem _ => onRow mem r fun t1 gr _ _ cells => match gr, liesAt P P.depth t1 (cells.len / P.cellsOf t1) q u 1 with
      | false, true => k (.p r q) hp
      | _, _ => none) :=
  fun e t0 hp k r hr => by
    obtain ⟨b, q, hb, h1⟩ := AV.on_p_some hr
    cases hp with
    | mk m nx =>
    obtain ⟨t1, gr, fz, ro, cells, hm, h2⟩ := onRow_some (show onRow m b _ = some r from h1)
    split at h2
    · rename_i hl
      refine ⟨_, h2, fun φ a w _ hx hw => ?_⟩
      obtain ⟨g, hg, e1⟩ : ∃ g, φ b = some g ∧ a.eval x = .pointer (some ⟨g.1, q, none⟩) := by have := hx x (by rw [ho]; simp [Op.operands]); rw [hb] at this; exact this
      obtain ⟨K, e2, e3, e4⟩ := (show RW φ m w from hw).shape hm hg
      have e5 := e4 rfl
      subst e5
      have hrun := Lib.run_from_unsafe (P := P) w ⟨g.1, q, none⟩ hs ht hi e2 hl
      refine ⟨.pointer (some ⟨g.1, q, none⟩), ?_, g, hg, rfl⟩
      unfold execOp
      simp only [ho, e1, Sem.run_bind, hrun, Result.andThen_ok]
      rfl
    · cases h2
noncomputable def dataF (a : AV) (k : AV → R) : R := match a with
  | .sn => k .pn
  | .sl r q m _ => match Nat.beq m 0 with
    | true => none
    | false => k (.p r q)
  | .sg r q m _ => match Nat.beq m 0 with
    | true => none
    | false => k (.p r q)
  | _ => none
theorem sliceData_ok {t : TypeId} {x : Operand} (ho : o.op = .call { callee := .builtin .unsafeSliceData, args := #[x], argTypes := #[t] }) :
    PureOk P G dt n ds o (fun e t0 hp k => dataF ((opd G dt n ds x).run e t0) fun v => k v hp) :=
  .pure fun e t0 hp k r hr => by
    have fin : ∀ (v : AV) (v' : (Id → Option Plc) → Act → World → Value), k v hp = some r → (∀ φ (a : Act) (w : World), OpsR G dt n ds φ e t0 a.eval o.op → (Builtin.unsafeSliceData_ #[t] o.type #[a.eval x]).run P w = .ok (v' φ a w) w ∧ VR φ v (v' φ a w)) → ∃ v, k v hp = some r ∧ ∀ φ (a : Act) w, OpsR G dt n ds φ e t0 a.eval o.op → ∃ v', (execOp a.eval o).run P w = .ok (.value v') w ∧ VR φ v v' := by
      intro v v' hk hall
      refine ⟨v, hk, fun φ a w hx => ?_⟩
      obtain ⟨h1, h2⟩ := hall φ a w hx
      refine ⟨_, ?_, h2⟩
      unfold execOp
      simp only [ho, resolve, invoke, builtin, Sem.run_bind, Sem.run_pure, Result.andThen_ok, List.map_toArray, List.map_cons, List.map_nil, h1]
    have h1 : dataF ((opd G dt n ds x).run e t0) (fun v => k v hp) = some r := hr
    unfold dataF at h1
    split at h1
    · rename_i hs
      refine fin .pn (fun _ _ _ => .pointer none) h1 fun φ a w hx => ?_
      have e1 : a.eval x = .slice none 0 0 := by have := hx x (by rw [ho]; simp [Op.operands, Call.operands]); rw [hs] at this; exact this
      rw [e1]
      exact ⟨Lib.run_unsafeSliceData_nil (P := P) w #[t] o.type 0 0, rfl⟩
    · rename_i b q m c hs
      split at h1
      · cases h1
      rename_i hm
      have hm' : m ≠ 0 := fun e => by subst e; cases hm
      refine fin (.p b q) (fun φ a w => .pointer ((φ b).map fun g => ⟨g.1, q, none⟩)) h1 fun φ a w hx => ?_
      obtain ⟨g, c', hg, e1, hle, _⟩ : ∃ g k, φ b = some g ∧ a.eval x = .slice (some ⟨g.1, q, none⟩) m k ∧ m ≤ k ∧ (∀ z, c = some z → k = z) := by have := hx x (by rw [ho]; simp [Op.operands, Call.operands]); rw [hs] at this; exact this
      rw [e1]
      simp only [hg, Option.map_some]
      exact ⟨Lib.run_unsafeSliceData_row (P := P) w #[t] o.type _ m c' (by omega), g, hg, rfl⟩
    · rename_i b q m z hs
      split at h1
      · cases h1
      rename_i hm
      have hm' : m ≠ 0 := fun e => by subst e; cases hm
      refine fin (.p b q) (fun φ a w => .pointer ((φ b).map fun g => ⟨g.1, q, none⟩)) h1 fun φ a w hx => ?_
      obtain ⟨g, c', hg, e1, hle, _⟩ : ∃ g k, φ b = some g ∧ a.eval x = .slice (some ⟨g.1, q, none⟩) m k ∧ m ≤ k ∧ q + k * z = g.2 := by have := hx x (by rw [ho]; simp [Op.operands, Call.operands]); rw [hs] at this; exact this
      rw [e1]
      simp only [hg, Option.map_some]
      exact ⟨Lib.run_unsafeSliceData_row (P := P) w #[t] o.type _ m c' (by omega), g, hg, rfl⟩
    · cases h1
noncomputable def ustrF (e : TypeId) (a : AV) (m : Nat) (hp : HP) (k : KV) : R := match Nat.beq m 0 with
  | true => match a with
    | .p _ _ => k (.s []) hp
    | .pn => k (.s []) hp
    | _ => none
  | false => a.on_p fun r q => match Nat.beq q 0 with
    | false => none
    | true => hp.on fun mem nx => onRow mem r fun t gr fz ro cells => match ro, Nat.beq t e, Nat.ble m 9223372036854775807 with
      | false, true, true => bytesK m cells fun ns => k (.s ns) (.mk (mem.set r (.row t gr none false cells)) nx)
      | _, _, _ => none
theorem unsafeString_ok {pt it e : TypeId} {x y : Operand} (ho : o.op = .call { callee := .builtin .unsafeString, args := #[x, y], argTypes := #[pt, it] }) (hp' : P.underlying pt = some (.pointer e)) (hc : P.cellsOf e = 1) :
    ValOk P G dt n ds o (fun E t0 hp k => match (opd G dt n ds y).run E t0 with
      | .i .i64 j => onNat j fun m => ustrF e ((opd G dt n ds x).run E t0) m hp k
      | _ => none) := by
  intro E t0 hp k r hr
  have wrap : ∀ (a : Act) (w w' : World) (v' : Value), (Builtin.unsafeString_ #[pt, it] o.type #[a.eval x, a.eval y]).run P w = .ok v' w' → (execOp a.eval o).run P w = .ok (.value v') w' := by
    intro a w w' v' h
    unfold execOp
    simp only [ho, resolve, invoke, builtin, Sem.run_bind, Sem.run_pure, Result.andThen_ok, List.map_toArray, List.map_cons, List.map_nil, h]
  have hr0 : (match (generalizing := false) (opd G dt n ds y).run E t0 with
      | .i .i64 j => onNat j fun m => ustrF e ((opd G dt n ds x).run E t0) m hp k
      | _ => none : R) = some r := hr
  split at hr0
  · rename_i j hy
    obtain ⟨m, rfl, h1⟩ := onNat_some hr0
    have hy' : ∀ φ (a : Act), OpsR G dt n ds φ E t0 a.eval o.op → a.eval y = .int .i64 (m : Int) := fun φ a hx => by
      have := hx y (by rw [ho]; simp [Op.operands, Call.operands])
      rw [hy] at this
      exact this
    unfold ustrF at h1
    split at h1
    · rename_i hm
      have hm' : m = 0 := Nat.eq_of_beq_eq_true hm
      subst hm'
      have zero : k (.s []) hp = some r → (∀ φ (a : Act), OpsR G dt n ds φ E t0 a.eval o.op → ∃ p, a.eval x = .pointer p) → ∃ v hp', k v hp' = some r ∧ ∀ φ B (a : Act) w, Glo G φ → OpsR G dt n ds φ E t0 a.eval o.op → WH φ B hp w →
          ∃ ψ v' w', ((execOp a.eval o).run P w = .ok (.value v') w' ∨ ((execOp a.eval o).run P w = .ok .skip w' ∧ v' = undef)) ∧ VR ψ v v' ∧ StH φ hp w ψ hp' w' ∧ WH ψ B hp' w' := by
        intro hk hpt
        refine ⟨_, _, hk, fun φ B a w _ hx hw => ?_⟩
        obtain ⟨p, e1⟩ := hpt φ a hx
        refine ⟨φ, .string .empty, w, .inl (wrap a w w _ ?_), ⟨rfl, fun _ h => by cases h⟩, Step.refl, hw⟩
        rw [e1, hy' φ a hx]
        exact Lib.run_unsafeString_none (P := P) w pt it o.type p
      split at h1
      · rename_i q i hs
        exact zero h1 fun φ a hx => by
          have := hx x (by rw [ho]; simp [Op.operands, Call.operands])
          rw [hs] at this
          obtain ⟨g, _, e1⟩ := this
          exact ⟨_, e1⟩
      · rename_i hs
        exact zero h1 fun φ a hx => by
          have := hx x (by rw [ho]; simp [Op.operands, Call.operands])
          rw [hs] at this
          exact ⟨_, this⟩
      · cases h1
    · rename_i hm
      have hm' : m ≠ 0 := fun e => by subst e; cases hm
      obtain ⟨b, q, hb, h2⟩ := AV.on_p_some h1
      split at h2
      · cases h2
      rename_i hq
      have hq' : q = 0 := Nat.eq_of_beq_eq_true hq
      subst hq'
      cases hp with
      | mk mem nx =>
      obtain ⟨t1, gr, fz, ro, cells, hme, h3⟩ := onRow_some (show onRow mem b _ = some r from h2)
      split at h3
      · rename_i hte h63
        have hte' : t1 = e := Nat.eq_of_beq_eq_true hte
        subst hte'
        have h63' : m ≤ 9223372036854775807 := Nat.le_of_ble_eq_true h63
        obtain ⟨ns, h4, h5, h6, h7⟩ := bytesK_some m h3
        refine ⟨_, _, h4, fun φ B a w _ hx hw => ?_⟩
        have hw' : WR φ B mem nx w := hw
        obtain ⟨g, hg, e1⟩ : ∃ g, φ b = some g ∧ a.eval x = .pointer (some ⟨g.1, 0, none⟩) := by have := hx x (by rw [ho]; simp [Op.operands, Call.operands]); rw [hb] at this; exact this
        obtain ⟨c, l, rest, mk, c1, c2, c3, c4, c5, _⟩ := hw'.rw.row hme hg
        have c7 := h7 φ l c3
        have hlen : m ≤ l.length := by
          have := congrArg List.length c7
          rw [List.length_take, List.length_map, h5] at this
          omega
        have hcell : ∀ j z, (ns.map UInt8.ofNat)[j]? = some z → w.cell? ((⟨g.1, 0, none⟩ : Addr).add j) = some (.int .u8 z.toNat) := by
          intro j z hz
          rw [List.getElem?_map] at hz
          obtain ⟨b', hb', hz'⟩ := Option.map_eq_some_iff.1 hz
          have hjm : j < m := by rw [← h5]; exact (List.getElem?_eq_some_iff.1 hb').1
          have hlj : l[j]? = some (.int .u8 (b' : Int)) := by
            have h8 := congrArg (fun l => l[j]?) c7
            simp only [List.getElem?_take, List.getElem?_map, hb', Option.map_some] at h8
            rw [if_pos hjm] at h8
            exact h8
          rw [add_lit, Nat.zero_add, cell_row c1 c2 hlj, ← hz']
          have := h6 b' (List.mem_of_getElem? hb')
          simp [UInt8.toNat_ofNat', Nat.mod_eq_of_lt this]
        have hsh : w.shape? g.1 = some (t1, c.size) := by unfold World.shape?; rw [c1]
        have hnl : (ns.map UInt8.ofNat).length = m := by rw [List.length_map, h5]
        have hrun := Lib.run_unsafeString_row (P := P) w pt it o.type t1 hp' hc g.1 c.size hsh (ns.map UInt8.ofNat) (fun h => hm' (by rw [← hnl, h]; rfl)) (by rw [hnl, ← Array.length_toList, c2, List.length_append]; omega) (by rw [hnl]; exact h63') hcell
        rw [hnl] at hrun
        have hgs := hw'.lt b g hg
        have hat : (w.freeze ⟨g.1, 0, none⟩ m).heap[g.1]? = some (.cells c t1 (if mk.1 == mk.2 then (0, 0 + m) else (min mk.1 0, max mk.2 (0 + m)))) := by
          simp only [World.freeze, hm', if_false, Array.getElem?_modify, if_pos, c1, Option.map_some]
        obtain ⟨s1, s2⟩ := hw'.put (w' := w.freeze ⟨g.1, 0, none⟩ m) (y := .row t1 gr none false cells) (o := .cells c t1 (if mk.1 == mk.2 then (0, 0 + m) else (min mk.1 0, max mk.2 (0 + m)))) hme rfl rfl hg
          (by simp [World.freeze, hm']) (by simp [World.freeze, hm']) (by simp [World.freeze, hm']) (by simp [World.freeze, hm'])
          (fun k hk => by simp [World.freeze, hm', Array.getElem?_modify, Ne.symm hk]) hat ⟨c, l, rest, _, rfl, c2, c3, c4, c5, trivial⟩
        refine ⟨φ, .string ⟨(ns.map UInt8.ofNat).toArray⟩, _, .inl (wrap a w _ _ ?_), ⟨rfl, h6⟩, s2, s1⟩
        rw [e1, hy' φ a hx]
        exact hrun
      · cases h3
  · cases hr0
end
end Go.Proofs.YtnfokaecobddkaaGreatDoor.Clo
end
section
namespace Go.Proofs.YtnfokaecobddkaaGreatDoor.Clo
open Go.RowKit
set_option linter.unusedVariables false
set_option linter.unusedSimpArgs false
set_option linter.constructorNameAsVariable false
inductive PI where | run (i : Nat) | chk (i : Nat)
def Kd.same : Kd → Kd → Bool
  | .pure, .pure | .still, .still | .make, .make | .eff, .eff => true
  | _, _ => false
theorem Kd.same_eq {a b : Kd} (h : a.same b = true) : a = b := by cases a <;> cases b <;> first | rfl | cases h
def gslot (ops : Array Oper) (o : Oper) : Option Nat := match o.guard with
  | none => none
  | some (j, _) => (ops[j]?).bind (·.dst)
def slotOf : Operand → Option Nat
  | .tmp t => some t
  | _ => none
def reads (ops : Array Oper) (o : Oper) : List Nat := (gslot ops o).toList ++ o.op.operands.toList.filterMap slotOf
def edgeMask (acc : List Nat) : List Edge → Nat
  | [] => 0
  | e :: r => match Region.binds .any e with
    | true => Nat.lor (Nat.lor (Nat.shiftLeft 1 e.on) (acc.getD e.on 0)) (edgeMask acc r)
    | false => edgeMask acc r
def masks : List Oper → List Nat → List Nat
  | [], acc => acc
  | o :: r, acc => masks r (acc ++ [edgeMask acc o.after.toList])
theorem edgeMask_bit {acc : List Nat} : ∀ {es : List Edge} {j : Nat}, (edgeMask acc es).testBit j = true → ∃ e ∈ es, Region.binds .any e = true ∧ (e.on = j ∨ (acc.getD e.on 0).testBit j = true)
  | [], j, h => by simp [edgeMask] at h
  | e :: r, j, h => by
    unfold edgeMask at h
    split at h
    · rename_i hb
      have h' : (((1 <<< e.on) ||| acc.getD e.on 0) ||| edgeMask acc r).testBit j = true := h
      rw [Nat.testBit_or, Nat.testBit_or, Bool.or_eq_true, Bool.or_eq_true] at h'
      rcases h' with (h' | h') | h'
      · rw [Nat.testBit_shiftLeft, Bool.and_eq_true, decide_eq_true_eq] at h'
        have h2 := h'.2
        rw [show (1 : Nat) = 2 ^ 0 from rfl, Nat.testBit_two_pow, decide_eq_true_eq] at h2
        exact ⟨e, by simp, hb, .inl (by omega)⟩
      · exact ⟨e, by simp, hb, .inr h'⟩
      · obtain ⟨e', he, h1⟩ := edgeMask_bit h'
        exact ⟨e', by simp [he], h1⟩
    · obtain ⟨e', he, h1⟩ := edgeMask_bit h
      exact ⟨e', by simp [he], h1⟩
def Closed (ops : Array Oper) (S : Nat → Prop) : Prop := ∀ i o, ops[i]? = some o → S i → ∀ e ∈ o.after, Region.binds .any e = true → S e.on
theorem masks_ok {ops : Array Oper} : ∀ (l pre : List Oper) (acc : List Nat), ops.toList = pre ++ l → acc.length = pre.length →
    (∀ i j, (acc.getD i 0).testBit j = true → ∀ S, Closed ops S → S i → S j) → ∀ i j, ((masks l acc).getD i 0).testBit j = true → ∀ S, Closed ops S → S i → S j
  | [], pre, acc, _, _, h => h
  | o :: l, pre, acc, e, hl, h => by
    refine masks_ok l (pre ++ [o]) _ (by rw [e]; simp) (by simp [hl]) fun i j hb S hS hi => ?_
    by_cases h1 : i < acc.length
    · rw [show (acc ++ [edgeMask acc o.after.toList]).getD i 0 = acc.getD i 0 by simp [List.getD, List.getElem?_append_left h1]] at hb
      exact h i j hb S hS hi
    · by_cases h2 : i = acc.length
      · subst h2
        have : ((acc ++ [edgeMask acc o.after.toList]).getD acc.length 0) = edgeMask acc o.after.toList := by simp [List.getD]
        rw [this] at hb
        obtain ⟨e', he, hbi, hc⟩ := edgeMask_bit hb
        have ho : ops[acc.length]? = some o := by rw [← Array.getElem?_toList, e, hl]; simp
        have hs := hS _ o ho hi e' (Array.mem_toList_iff.1 he) hbi
        rcases hc with rfl | hc
        · exact hs
        · exact h _ _ hc S hS hs
      · rw [show (acc ++ [edgeMask acc o.after.toList]).getD i 0 = 0 by simp [List.getD, List.getElem?_eq_none (show (acc ++ [edgeMask acc o.after.toList]).length ≤ i by simp; omega)]] at hb
        simp at hb
theorem anc_ok {ops : Array Oper} {i j : Nat} (h : ((masks ops.toList []).getD i 0).testBit j = true) {S : Nat → Prop} (hS : Closed ops S) (hi : S i) : S j :=
  masks_ok ops.toList [] [] rfl rfl (fun i j h => by simp at h) i j h S hS hi
def bitOf (i : Nat) : Nat := Nat.shiftLeft 1 i
theorem bit_or {D i j : Nat} : (Nat.lor D (bitOf i)).testBit j = true ↔ D.testBit j = true ∨ j = i := by
  show ((D ||| (1 <<< i)).testBit j = true) ↔ _
  rw [Nat.testBit_or, Bool.or_eq_true, Nat.testBit_shiftLeft, Bool.and_eq_true, decide_eq_true_eq, show (1 : Nat) = 2 ^ 0 from rfl, Nat.testBit_two_pow, decide_eq_true_eq]
  constructor
  · rintro (h | ⟨h1, h2⟩)
    · exact .inl h
    · exact .inr (by omega)
  · rintro (h | rfl)
    · exact .inl h
    · exact .inr ⟨Nat.le_refl _, by omega⟩
def subB (a b : Nat) : Bool := Nat.beq (Nat.land a b) a
theorem subB_ok {a b j : Nat} (h : subB a b = true) (hj : a.testBit j = true) : b.testBit j = true := by
  have e : a &&& b = a := Nat.eq_of_beq_eq_true h
  rw [← e, Nat.testBit_and, Bool.and_eq_true] at hj
  exact hj.2
section
variable (ops : Array Oper) (ms : List Nat) (kindM : Oper → Kd)
def dstsOf : List (Option Nat) := ops.toList.map (·.dst)
def slotB (i D d : Nat) : List (Option Nat) → Nat → Bool
  | [], _ => true
  | x :: r, j => (match x with
    | none => true
    | some d' => match Nat.beq d' d with
      | false => true
      | true => Nat.beq j i || (ms.getD i 0).testBit j || ((ms.getD j 0).testBit i && !D.testBit j)) && slotB i D d r (j + 1)
def slotsB (i D : Nat) (rd : List Nat) : Bool := rd.all fun d => slotB ms i D d (dstsOf ops) 0
def isStill : Kd → Bool
  | .still => true
  | _ => false
def due (i D : Nat) : List Oper → Nat → List Nat
  | [], _ => []
  | o :: r, j => match D.testBit j, isStill (kindM o), (ms.getD i 0).testBit j with
    | true, true, false => j :: due i D r (j + 1)
    | _, _, _ => due i D r (j + 1)
def isEff : Kd → Bool
  | .eff => true
  | _ => false
def planB : List PI → Nat → Nat → List Nat → Bool
  | [], D, _, [] => (List.range ops.size).all fun j => D.testBit j
  | [], _, _, _ :: _ => false
  | .run i :: r, D, E, [] => match ops[i]? with
    | none => false
    | some o => !D.testBit i && subB (ms.getD i 0) D && subB E (ms.getD i 0) && slotsB ops ms i D (reads ops o) &&
      (match isEff (kindM o) with
      | true => planB r (Nat.lor D (bitOf i)) (Nat.lor E (bitOf i)) (due ms kindM i D ops.toList 0)
      | false => planB r (Nat.lor D (bitOf i)) E [])
  | .run _ :: _, _, _, _ :: _ => false
  | .chk _ :: _, _, _, [] => false
  | .chk i :: r, D, E, c :: C => match ops[i]? with
    | none => false
    | some o => Nat.beq i c && slotsB ops ms i D (reads ops o) && (match o.dst with | none => false | some d => !(reads ops o).contains d) && planB r D E C
def onceB : List (Option Nat) → Bool
  | [] => true
  | none :: r => onceB r
  | some d :: r => !r.contains (some d) && onceB r
def backB : List Oper → Nat → Bool
  | [], _ => true
  | o :: r, i => (o.after.toList.all fun e => !Region.binds .any e || Nat.blt e.on i) && backB r (i + 1)
def findR (D : Nat) (eff : Bool) : List Oper → Nat → Option Nat
  | [], _ => none
  | o :: r, j => match D.testBit j, subB (ms.getD j 0) D, isEff (kindM o) == eff with
    | false, true, true => some j
    | _, _, _ => findR D eff r (j + 1)
def mkPlan : Nat → Nat → List PI
  | 0, _ => []
  | f + 1, D => match findR ms kindM D false ops.toList 0 with
    | some i => .run i :: mkPlan f (Nat.lor D (bitOf i))
    | none => match findR ms kindM D true ops.toList 0 with
      | some i => .run i :: ((due ms kindM i D ops.toList 0).map PI.chk ++ mkPlan f (Nat.lor D (bitOf i)))
      | none => []
end
section
variable {ops : Array Oper} {ms : List Nat} {kindM : Oper → Kd}
theorem slotB_ok {i D d : Nat} : ∀ {l : List (Option Nat)} {j0 : Nat}, slotB ms i D d l j0 = true → ∀ j, l[j]? = some (some d) → j0 + j = i ∨ (ms.getD i 0).testBit (j0 + j) = true ∨ ((ms.getD (j0 + j) 0).testBit i = true ∧ D.testBit (j0 + j) = false)
  | [], j0, _, j, h => by simp at h
  | x :: r, j0, h, 0, hj => by
    simp at hj
    subst hj
    unfold slotB at h
    simp only [Nat.beq_refl, Bool.and_eq_true, Bool.or_eq_true, Bool.not_eq_true'] at h
    rcases h.1 with (h1 | h1) | h1
    · exact .inl (Nat.eq_of_beq_eq_true h1)
    · exact .inr (.inl h1)
    · exact .inr (.inr h1)
  | x :: r, j0, h, j + 1, hj => by
    unfold slotB at h
    rw [Bool.and_eq_true] at h
    have := slotB_ok h.2 j (by simpa using hj)
    rw [show j0 + (j + 1) = j0 + 1 + j by omega]
    exact this
theorem slotsB_ok {i D : Nat} {rd : List Nat} (h : slotsB ops ms i D rd = true) {d : Nat} (hd : d ∈ rd) {j : Nat} {p : Oper} (hj : ops[j]? = some p) (hp : p.dst = some d) :
    j = i ∨ (ms.getD i 0).testBit j = true ∨ ((ms.getD j 0).testBit i = true ∧ D.testBit j = false) := by
  have h1 := List.all_eq_true.1 h d hd
  have := slotB_ok h1 j (by unfold dstsOf; rw [List.getElem?_map, Array.getElem?_toList, hj]; simp [hp])
  simpa using this
theorem due_ok {i D : Nat} : ∀ {l : List Oper} {j0 j : Nat} {o : Oper}, l[j]? = some o → D.testBit (j0 + j) = true → kindM o = .still → (ms.getD i 0).testBit (j0 + j) = false → (j0 + j) ∈ due ms kindM i D l j0
  | [], j0, j, o, h, _, _, _ => by simp at h
  | x :: r, j0, 0, o, h, h1, h2, h3 => by
    simp at h
    subst h
    unfold due
    simp only [Nat.add_zero] at h1 h3
    rw [h1, h2, h3]
    simp [isStill]
  | x :: r, j0, j + 1, o, h, h1, h2, h3 => by
    rw [show j0 + (j + 1) = j0 + 1 + j by omega] at h1 h3 ⊢
    have := due_ok (j0 := j0 + 1) (by simpa using h) h1 h2 h3
    unfold due
    split
    · exact List.mem_cons_of_mem _ this
    · exact this
theorem onceB_ok : ∀ {l : List (Option Nat)}, onceB l = true → ∀ {i j d : Nat}, l[i]? = some (some d) → l[j]? = some (some d) → i = j
  | [], _, i, j, d, h, _ => by simp at h
  | none :: r, h, i, j, d, hi, hj => by
    cases i with
    | zero => simp at hi
    | succ i => cases j with
      | zero => simp at hj
      | succ j => exact congrArg (· + 1) (onceB_ok (show onceB r = true from h) (by simpa using hi) (by simpa using hj))
  | some x :: r, h, i, j, d, hi, hj => by
    have h' : (!r.contains (some x) && onceB r) = true := h
    rw [Bool.and_eq_true] at h'
    have no : ∀ k, r[k]? = some (some x) → False := fun k hk => by
      have hm := List.mem_of_getElem? hk
      have := h'.1
      simp [hm] at this
    cases i with
    | zero =>
      simp at hi
      subst hi
      cases j with
      | zero => rfl
      | succ j => exact (no j (by simpa using hj)).elim
    | succ i => cases j with
      | zero => simp at hj; subst hj; exact (no i (by simpa using hi)).elim
      | succ j => exact congrArg (· + 1) (onceB_ok h'.2 (by simpa using hi) (by simpa using hj))
theorem once_ok (h : onceB (dstsOf ops) = true) {i j d : Nat} {o p : Oper} (hi : ops[i]? = some o) (hj : ops[j]? = some p) (ho : o.dst = some d) (hp : p.dst = some d) : i = j :=
  onceB_ok h (d := d) (by unfold dstsOf; rw [List.getElem?_map, Array.getElem?_toList, hi]; simp [ho]) (by unfold dstsOf; rw [List.getElem?_map, Array.getElem?_toList, hj]; simp [hp])
theorem backB_ok : ∀ {l : List Oper} {j0 : Nat}, backB l j0 = true → ∀ {j : Nat} {o : Oper}, l[j]? = some o → ∀ e ∈ o.after, Region.binds .any e = true → e.on < j0 + j
  | [], j0, _, j, o, h, _, _, _ => by simp at h
  | x :: r, j0, h, 0, o, hj, e, he, hb => by
    simp at hj
    subst hj
    unfold backB at h
    rw [Bool.and_eq_true] at h
    have := List.all_eq_true.1 h.1 e (Array.mem_toList_iff.2 he)
    rw [hb] at this
    simpa [Nat.blt_eq] using this
  | x :: r, j0, h, j + 1, o, hj, e, he, hb => by
    unfold backB at h
    rw [Bool.and_eq_true] at h
    have := backB_ok h.2 (j := j) (by simpa using hj) e he hb
    omega
theorem back_ok (h : backB ops.toList 0 = true) {j : Nat} {o : Oper} (hj : ops[j]? = some o) {e : Edge} (he : e ∈ o.after) (hb : Region.binds .any e = true) : e.on < j := by
  have := backB_ok h (j := j) (by rw [Array.getElem?_toList]; exact hj) e he hb
  omega
theorem planB_later : ∀ {pl : List PI} {D E : Nat} {C : List Nat}, planB ops ms kindM pl D E C = true → ∀ {i : Nat}, i < ops.size → D.testBit i = false → ∀ j, E.testBit j = true → (ms.getD i 0).testBit j = true
  | [], D, E, [], h, i, hi, hD, j, _ => by
    have := List.all_eq_true.1 (show ((List.range ops.size).all fun j => D.testBit j) = true from h) i (List.mem_range.2 hi)
    rw [hD] at this
    cases this
  | [], D, E, _ :: _, h, i, hi, hD, j, _ => by cases h
  | .run k :: r, D, E, [], h, i, hi, hD, j, hj => by
    unfold planB at h
    split at h
    · cases h
    · rename_i o ho
      simp only [Bool.and_eq_true] at h
      obtain ⟨⟨⟨⟨h1, h2⟩, h3⟩, h4⟩, h5⟩ := h
      by_cases hik : i = k
      · subst hik; exact subB_ok h3 hj
      · have hD' : (Nat.lor D (bitOf k)).testBit i = false := by
          rw [Bool.eq_false_iff]
          intro hc
          rcases bit_or.1 hc with hc | hc
          · rw [hD] at hc; cases hc
          · exact hik hc
        split at h5
        · exact planB_later h5 hi hD' j (bit_or.2 (.inl hj))
        · exact planB_later h5 hi hD' j hj
  | .run _ :: _, D, E, _ :: _, h, i, hi, hD, j, _ => by cases h
  | .chk _ :: _, D, E, [], h, i, hi, hD, j, _ => by cases h
  | .chk k :: r, D, E, c :: C, h, i, hi, hD, j, hj => by
    unfold planB at h
    split at h
    · cases h
    · simp only [Bool.and_eq_true] at h
      exact planB_later h.2 hi hD j hj
end
end Go.Proofs.YtnfokaecobddkaaGreatDoor.Clo
end
section
namespace Go.Proofs.YtnfokaecobddkaaGreatDoor.Clo
open Go.RowKit
set_option linter.unusedVariables false
set_option linter.unusedSimpArgs false
set_option linter.constructorNameAsVariable false
def eqA : AV → AV → Bool
  | .u, .u => true
  | .nil, .nil => true
  | .inil, .inil => true
  | .fnil, .fnil => true
  | .mn, .mn => true
  | .sn, .sn => true
  | .pn, .pn => true
  | .cons a b, .cons c d => eqA a c && eqA b d
  | .ifc t x, .ifc t' y => Nat.beq t t' && eqA x y
  | .fn (.func f) a b, .fn (.func g) c d => Nat.beq f g && (eqA a c && eqA b d)
  | .tu l, .tu m => eqA l m
  | .ag l, .ag m => eqA l m
  | .sl r o n none, .sl r' o' n' none => listEqId r r' && (Nat.beq o o' && Nat.beq n n')
  | .sl r o n (some c), .sl r' o' n' (some c') => listEqId r r' && (Nat.beq o o' && (Nat.beq n n' && Nat.beq c c'))
  | .sg r o n z, .sg r' o' n' z' => listEqId r r' && (Nat.beq o o' && (Nat.beq n n' && Nat.beq z z'))
  | .p r o, .p r' o' => listEqId r r' && Nat.beq o o'
  | .mp r, .mp r' => listEqId r r'
  | .s l, .s m => listEqN l m
  | .b x, .b y => x == y
  | .i k n, .i k' n' => decide (k = k') && eqI n n'
  | _, _ => false
where
  listEqId : Id → Id → Bool
    | [], [] => true
    | x :: a, y :: b => decide (x = y) && listEqId a b
    | _, _ => false
  listEqN : List Nat → List Nat → Bool
    | [], [] => true
    | x :: a, y :: b => Nat.beq x y && listEqN a b
    | _, _ => false
theorem listEqId_eq : ∀ {a b : Id}, eqA.listEqId a b = true → a = b
  | [], [], _ => rfl
  | [], _ :: _, h => by cases h
  | _ :: _, [], h => by cases h
  | x :: a, y :: b, h => by
    simp only [eqA.listEqId, Bool.and_eq_true, decide_eq_true_eq] at h
    rw [h.1, listEqId_eq h.2]
theorem listEqN_eq : ∀ {a b : List Nat}, eqA.listEqN a b = true → a = b
  | [], [], _ => rfl
  | [], _ :: _, h => by cases h
  | _ :: _, [], h => by cases h
  | x :: a, y :: b, h => by
    simp only [eqA.listEqN, Bool.and_eq_true] at h
    rw [Nat.eq_of_beq_eq_true h.1, listEqN_eq h.2]
theorem eqA_eq {a b : AV} (h : eqA a b = true) : a = b := by
  fun_induction eqA a b with
  | case1 | case2 | case3 | case4 | case5 | case6 | case7 => rfl
  | case8 a b c d ih1 ih2 => rw [Bool.and_eq_true] at h; rw [ih1 h.1, ih2 h.2]
  | case9 t x t' y ih => rw [Bool.and_eq_true] at h; rw [Nat.eq_of_beq_eq_true h.1, ih h.2]
  | case10 f a b g c d ih1 ih2 => rw [Bool.and_eq_true, Bool.and_eq_true] at h; rw [Nat.eq_of_beq_eq_true h.1, ih1 h.2.1, ih2 h.2.2]
  | case11 l m ih => rw [ih h]
  | case12 l m ih => rw [ih h]
  | case13 => simp only [Bool.and_eq_true] at h; rw [listEqId_eq h.1, Nat.eq_of_beq_eq_true h.2.1, Nat.eq_of_beq_eq_true h.2.2]
  | case14 => simp only [Bool.and_eq_true] at h; rw [listEqId_eq h.1, Nat.eq_of_beq_eq_true h.2.1, Nat.eq_of_beq_eq_true h.2.2.1, Nat.eq_of_beq_eq_true h.2.2.2]
  | case15 => simp only [Bool.and_eq_true] at h; rw [listEqId_eq h.1, Nat.eq_of_beq_eq_true h.2.1, Nat.eq_of_beq_eq_true h.2.2.1, Nat.eq_of_beq_eq_true h.2.2.2]
  | case16 => simp only [Bool.and_eq_true] at h; rw [listEqId_eq h.1, Nat.eq_of_beq_eq_true h.2]
  | case17 => rw [listEqId_eq h]
  | case18 => rw [listEqN_eq h]
  | case19 => rw [beq_iff_eq] at h; rw [h]
  | case20 => rw [Bool.and_eq_true, decide_eq_true_eq, eqI_eq, beq_iff_eq] at h; rw [h.1, h.2]
  | case21 => cases h
end Go.Proofs.YtnfokaecobddkaaGreatDoor.Clo
end
section
namespace Go.Proofs.YtnfokaecobddkaaGreatDoor.Clo
open Go.RowKit
set_option linter.unusedVariables false
set_option linter.unusedSimpArgs false
set_option linter.constructorNameAsVariable false
section
variable (P : Program) (G dt n : Nat) (lo : Nat → Bool) (opM : OpM) (ops : Array Oper) (ms : List Nat) (kindM : Oper → Kd)
noncomputable def wipe : List Oper → Tr → Tr
  | [], t => t
  | o :: r, t => wipe r (match o.dst with
    | none => t
    | some d => if lo d then t else if d < n then t.set (path dt d) .u else t)
noncomputable def planM : List PI → List (Option Nat) → RM
  | [], _ => .mk fun _ _ t hp k => k .normal t hp
  | .run i :: r, ds => match ops[i]? with
    | none => .mk fun _ _ _ _ _ => none
    | some o => match opM ds o with
      | none => .mk fun _ _ _ _ _ => none
      | some (kd, m) => match kd.same (kindM o) with
        | false => .mk fun _ _ _ _ _ => none
        | true =>
          let m := wantedM G dt n ds ops o m
          let q := planM r (o.dst :: ds)
          match o.dst with
          | none => .mk fun hd e t hp k => m.run hd e t hp (fun v hp => q.run hd (v :: e) t hp k) fun v hp => k (.pan v) (wipe dt n lo ops.toList t) hp
          | some d => if d < n then (if lo d then .mk fun hd e t hp k => m.run hd e t hp (fun v hp => q.run hd (v :: e) t hp k) fun v hp => k (.pan v) (wipe dt n lo ops.toList t) hp
              else let p := path dt d; .mk fun hd e t hp k => m.run hd e t hp (fun v hp => q.run hd (v :: e) (t.set p v) hp k) fun v hp => k (.pan v) (wipe dt n lo ops.toList t) hp)
            else .mk fun _ _ _ _ _ => none
  | .chk i :: r, ds => match ops[i]? with
    | none => .mk fun _ _ _ _ _ => none
    | some o => match opM ds o, o.dst with
      | some (kd, m), some d => match kd.same .still, idx d ds with
        | true, some j =>
          let m := wantedM G dt n ds ops o m
          let q := planM r ds
          .mk fun hd e t hp k => m.run hd e t hp (fun v _ => Bool.rec none (q.run hd e t hp k) (eqA v (envAt j e))) fun _ _ => none
        | _, _ => .mk fun _ _ _ _ _ => none
      | _, _ => .mk fun _ _ _ _ _ => none
def RdA (A : Operand → AV) (φ : Id → Option Plc) (a : Act) (o : Oper) : Prop :=
  (∀ x ∈ o.op.operands, VR φ (A x) (a.eval x)) ∧ ∀ d, gslot ops o = some d → VR φ (A (.tmp d)) (a.eval (.tmp d))
def Wtd (o : Oper) (a : Act) : Prop := Region.wanted o (yielded ops a.tmps) = true
def NotW (o : Oper) (A : Operand → AV) (v : AV) : Prop := v = undefA ∧ ∀ φ (a : Act), RdA ops A φ a o → ¬ Wtd ops o a
def FactP (o : Oper) (A : Operand → AV) (v : AV) : Prop := NotW ops o A v ∨ ∀ φ (a : Act) w, RdA ops A φ a o → Wtd ops o a ∧ ∃ v', (execOp a.eval o).run P w = .ok (.value v') w ∧ VR φ v v'
def FactS (o : Oper) (A : Operand → AV) (v : AV) (hp : HP) : Prop := NotW ops o A v ∨ ∀ φ (a : Act) w, Glo G φ → RdA ops A φ a o → RH φ hp w → Wtd ops o a ∧ ∃ v', (execOp a.eval o).run P w = .ok (.value v') w ∧ VR φ v v'
def MakeAt (o : Oper) (A : Operand → AV) (v : AV) (r : Id) (x : Blk) : Prop := ∀ φ (a : Act) w, Glo G φ → RdA ops A φ a o → Wtd ops o a ∧ ∃ v' ob K w', (execOp a.eval o).run P w = .ok (.value v') w' ∧ NewW w ob w' ∧ x.says φ K ob ∧ ∀ ψ, More φ ψ → ψ r = some (w.heap.size, K) → VR ψ v v'
def FactM (o : Oper) (A : Operand → AV) (v : AV) (hp hp' : HP) (r : Option Id) : Prop :=
  (NotW ops o A v ∧ hp' = hp ∧ r = none) ∨ ∃ m nx x, hp = .mk m nx ∧ last nx = false ∧ x.ro = false ∧ hp' = .mk (m.set nx x) (inc nx) ∧ r = some nx ∧ MakeAt P G ops o A v nx x
def FactE (o : Oper) (A : Operand → AV) (v : AV) (hp hp' : HP) : Prop := ∀ φ B a w, Glo G φ → RdA ops A φ a o → WH φ B hp w → ∀ (K : Act → World → Prop) Q,
  (∀ v' w', Aft φ B hp w v hp' v' w' → K (a.put o.dst v') w') → if Region.wanted o (yielded ops a.tmps) = true then o.wp P a w K Q else K (a.put o.dst undef) w
def FactX (o : Oper) (A : Operand → AV) (v : AV) (hp hp' : HP) : Prop := ∀ φ B a w, Glo G φ → RdA ops A φ a o → WH φ B hp w → ∀ (K : Act → World → Prop) Q,
  (∀ v' w', Aft φ B hp w v hp' v' w' → Q (.panic (one v')) a w') → if Region.wanted o (yielded ops a.tmps) = true then o.wp P a w K Q else K (a.put o.dst undef) w
def Wr (i d : Nat) : Option Nat := (List.range ops.size).find? fun j => (ms.getD i 0).testBit j && ((ops[j]?).bind (·.dst)) == some d
noncomputable def Ax (val : Nat → AV) (t0 : Tr) (i : Nat) : Operand → AV
  | .tmp d => match Wr ops ms i d with
    | some j => val j
    | none => if d < n then getT (path dt d) t0 else .u
  | x => (opd G dt n [] x).run [] t0
def upd (val : Nat → AV) (i : Nat) (v : AV) : Nat → AV := fun j => if j = i then v else val j
noncomputable def putT (t : Tr) (d : Option Nat) (v : AV) : Tr := match d with
  | none => t
  | some d => if lo d then t else t.set (path dt d) v
def Trace (t0 : Tr) : List PI → (Nat → AV) → (Nat → Option Id) → Tr → HP → Ex → Tr → HP → Prop
  | [], val, rid, t, hp, x, t', hp' => x = .normal ∧ t' = t ∧ hp' = hp
  | .run i :: r, val, rid, t, hp, x, t', hp' => ∃ o, ops[i]? = some o ∧ (∀ d, o.dst = some d → d < n) ∧ match kindM o with
    | .pure => ∃ v, FactP P ops o (Ax G dt n ops ms val t0 i) v ∧ Trace t0 r (upd val i v) rid (putT dt lo t o.dst v) hp x t' hp'
    | .still => ∃ v, FactS P G ops o (Ax G dt n ops ms val t0 i) v hp ∧ Trace t0 r (upd val i v) rid (putT dt lo t o.dst v) hp x t' hp'
    | .make => ∃ v hp1 r0, FactM P G ops o (Ax G dt n ops ms val t0 i) v hp hp1 r0 ∧ Trace t0 r (upd val i v) (fun j => if j = i then r0 else rid j) (putT dt lo t o.dst v) hp1 x t' hp'
    | .eff => (∃ v hp1, FactE P G ops o (Ax G dt n ops ms val t0 i) v hp hp1 ∧ Trace t0 r (upd val i v) rid (putT dt lo t o.dst v) hp1 x t' hp') ∨
      (∃ v hp1, FactX P G ops o (Ax G dt n ops ms val t0 i) v hp hp1 ∧ x = .pan v ∧ t' = wipe dt n lo ops.toList t ∧ hp' = hp1)
  | .chk i :: r, val, rid, t, hp, x, t', hp' => ∃ o, ops[i]? = some o ∧ FactS P G ops o (Ax G dt n ops ms val t0 i) (val i) hp ∧ Trace t0 r val rid t hp x t' hp'
end
section
variable {P : Program} {G dt n : Nat} {lo : Nat → Bool} {opM : OpM} {ops : Array Oper} {ms : List Nat} {kindM : Oper → Kd} {t0 : Tr}
theorem wtd_of {o : Oper} {a : Act} {φ : Id → Option Plc} {A : Operand → AV} (hr : RdA ops A φ a o) {j : Nat} {w : Bool} (hg : o.guard = some (j, w)) {d : Nat} (hj : (ops[j]?).bind (·.dst) = some d) : VR φ (A (.tmp d)) (a.tmps.getD d undef) :=
  hr.2 d (by unfold gslot; rw [hg]; exact hj)
theorem wantedM_cases {ds : List (Option Nat)} {o : Oper} {m : OM} {hd : Hd} {e : Env} {t : Tr} {hp : HP} {k : KV} {kp : KP} {r : AV × HP} {A : Operand → AV} (hA : ∀ d, gslot ops o = some d → (opd G dt n ds (.tmp d)).run e t = A (.tmp d))
    (hr : (wantedM G dt n ds ops o m).run hd e t hp k kp = some r) :
    (m.run hd e t hp k kp = some r ∧ ∀ φ (a : Act), RdA ops A φ a o → Wtd ops o a) ∨ (k undefA hp = some r ∧ ∀ φ (a : Act), RdA ops A φ a o → ¬ Wtd ops o a) := by
  unfold wantedM at hr
  cases hg : o.guard with
  | none =>
    simp only [hg] at hr
    exact .inl ⟨hr, fun φ a _ => by simp [Wtd, Region.wanted, hg]⟩
  | some jw =>
    obtain ⟨j, w⟩ := jw
    simp only [hg] at hr
    cases hj : (ops[j]?).bind (·.dst) with
    | none => simp only [hj] at hr; cases hr
    | some d =>
      simp only [hj] at hr
      have hA' := hA d (by unfold gslot; rw [hg]; exact hj)
      have hw := fun a : Act => wanted_of hg hj a
      have go : (((opd G dt n ds (.tmp d)).run e t = .b w ∧ m.run hd e t hp k kp = some r) ∨ (((∃ l, (opd G dt n ds (.tmp d)).run e t = .tu l) ∨ (opd G dt n ds (.tmp d)).run e t = .b (!w)) ∧ k undefA hp = some r)) →
          (m.run hd e t hp k kp = some r ∧ ∀ φ (a : Act), RdA ops A φ a o → Wtd ops o a) ∨ (k undefA hp = some r ∧ ∀ φ (a : Act), RdA ops A φ a o → ¬ Wtd ops o a) := by
        intro hc
        rcases hc with ⟨h1, h2⟩ | ⟨h1, h2⟩
        · refine .inl ⟨h2, fun φ a hra => ?_⟩
          have hv := wtd_of hra hg hj
          rw [← hA', h1] at hv
          have hv' : a.tmps.getD d undef = .bool w := hv
          unfold Wtd
          rw [hw a, hv']; simp
        · refine .inr ⟨h2, fun φ a hra => ?_⟩
          have hv := wtd_of hra hg hj
          unfold Wtd
          rw [hw a]
          rcases h1 with ⟨l, h1⟩ | h1
          · rw [← hA', h1] at hv
            obtain ⟨xs, hv', _⟩ := hv
            have hv'' : a.tmps.getD d undef = .tuple xs := hv'
            rw [hv'']
            simp
          · rw [← hA', h1] at hv
            have hv'' : a.tmps.getD d undef = .bool (!w) := hv
            rw [hv'']
            cases w <;> simp
      cases w with
      | true => exact go (guardB_some hr)
      | false => exact go (guardN_some hr)
structure EnvInv (dt n : Nat) (lo : Nat → Bool) (ops : Array Oper) (t0 : Tr) (ds : List (Option Nat)) (e : Env) (t : Tr) (val : Nat → AV) (D : Nat) : Prop where
  e1 : ∀ d j', idx d ds = some j' → ∃ j o, ops[j]? = some o ∧ o.dst = some d ∧ D.testBit j = true ∧ envAt j' e = val j
  e2 : ∀ j o d, ops[j]? = some o → D.testBit j = true → o.dst = some d → idx d ds ≠ none
  e3 : ∀ d, d < n → idx d ds = none → getT (path dt d) t = getT (path dt d) t0
theorem wr_some {i d j : Nat} (h : Wr ops ms i d = some j) : (ms.getD i 0).testBit j = true ∧ ∃ o, ops[j]? = some o ∧ o.dst = some d := by
  have := List.find?_some h
  simp only [Bool.and_eq_true, beq_iff_eq] at this
  obtain ⟨o, ho, hd⟩ := Option.bind_eq_some_iff.1 this.2
  exact ⟨this.1, o, ho, hd⟩
theorem wr_none {i d : Nat} (h : Wr ops ms i d = none) {j : Nat} {o : Oper} (hj : ops[j]? = some o) (hm : (ms.getD i 0).testBit j = true) : o.dst ≠ some d := by
  have hlt : j < ops.size := (Array.getElem?_eq_some_iff.1 hj).1
  have := List.find?_eq_none.1 h j (List.mem_range.2 hlt)
  simp only [Bool.and_eq_true, beq_iff_eq, not_and] at this
  intro hd
  exact this hm (by simp [hj, hd])
theorem evalA (hon : onceB (dstsOf ops) = true) {ds : List (Option Nat)} {e : Env} {t : Tr} {val : Nat → AV} {D i : Nat} {o : Oper} (hi : EnvInv dt n lo ops t0 ds e t val D) (ho : ops[i]? = some o) (hsub : subB (ms.getD i 0) D = true)
    (hsl : slotsB ops ms i D (reads ops o) = true) (hself : D.testBit i = false ∨ ∀ d, o.dst = some d → d ∉ reads ops o) :
    (∀ x ∈ o.op.operands, (opd G dt n ds x).run e t = Ax G dt n ops ms val t0 i x) ∧ ∀ d, gslot ops o = some d → (opd G dt n ds (.tmp d)).run e t = Ax G dt n ops ms val t0 i (.tmp d) := by
  have tmp : ∀ d ∈ reads ops o, (opd G dt n ds (.tmp d)).run e t = Ax G dt n ops ms val t0 i (.tmp d) := by
    intro d hd
    cases hx : idx d ds with
    | some j' =>
      have h1 : opd G dt n ds (.tmp d) = .mk fun e _ => envAt j' e := by simp only [opd, hx]
      rw [h1]
      obtain ⟨j, p, hj, hp, hD, hv⟩ := hi.e1 d j' hx
      show envAt j' e = _
      rw [hv]
      rcases slotsB_ok hsl hd hj hp with h | h | ⟨_, h⟩
      · subst h
        rw [ho] at hj
        cases hj
        rcases hself with h | h
        · rw [hD] at h; cases h
        · exact absurd hd (h d hp)
      · have hw : Wr ops ms i d = some j := by
          cases hwr : Wr ops ms i d with
          | none => exact absurd hp (wr_none hwr hj h)
          | some j2 =>
            obtain ⟨_, o2, ho2, hd2⟩ := wr_some hwr
            rw [once_ok hon hj ho2 hp hd2]
        simp only [Ax, hw]
      · rw [hD] at h; cases h
    | none =>
      have hw : Wr ops ms i d = none := by
        cases hwr : Wr ops ms i d with
        | none => rfl
        | some j2 =>
          obtain ⟨hm, o2, ho2, hd2⟩ := wr_some hwr
          exact absurd hx (hi.e2 j2 o2 d ho2 (subB_ok hsub hm) hd2)
      simp only [Ax, hw]
      by_cases hdn : d < n
      · have h1 : opd G dt n ds (.tmp d) = .mk fun _ t => getT (path dt d) t := by simp only [opd, hx, hdn, if_true]
        rw [h1, if_pos hdn]
        exact hi.e3 d hdn hx
      · have h1 : opd G dt n ds (.tmp d) = .mk fun _ _ => .u := by simp only [opd, hx, hdn, if_false]
        rw [h1, if_neg hdn]
        rfl
  refine ⟨fun x hx => ?_, fun d hd => tmp d (by simp [reads, hd])⟩
  cases x with
  | tmp d => exact tmp d (by simp only [reads, List.mem_append, List.mem_filterMap]; exact .inr ⟨_, Array.mem_toList_iff.2 hx, rfl⟩)
  | const v => rfl
  | func f => rfl
  | _ =>
    rename_i g
    simp only [Ax, opd]; split <;> rfl
theorem rdA_ops {A : Operand → AV} {φ : Id → Option Plc} {a : Act} {o : Oper} {ds : List (Option Nat)} {e : Env} {t : Tr} (hA : ∀ x ∈ o.op.operands, (opd G dt n ds x).run e t = A x) (h : RdA ops A φ a o) : OpsR G dt n ds φ e t a.eval o.op := fun x hx => by rw [hA x hx]; exact h.1 x hx
theorem EnvInv.run {ds : List (Option Nat)} {e : Env} {t : Tr} {val : Nat → AV} {D i : Nat} {o : Oper} {v : AV} (hn : n ≤ 4 ^ dt) (hi : EnvInv dt n lo ops t0 ds e t val D) (ho : ops[i]? = some o) (hD : D.testBit i = false) (hd : ∀ d, o.dst = some d → d < n) :
    EnvInv dt n lo ops t0 (o.dst :: ds) (v :: e) (putT dt lo t o.dst v) (upd val i v) (Nat.lor D (bitOf i)) := by
  refine ⟨fun d j' h => ?_, fun j p d hj hb hp => ?_, fun d hdn h => ?_⟩
  · unfold idx at h
    split at h
    · rename_i hdst
      cases h
      exact ⟨i, o, ho, hdst, bit_or.2 (.inr rfl), by simp only [upd, if_true]; rfl⟩
    · obtain ⟨j1, hj1, rfl⟩ := Option.map_eq_some_iff.1 h
      obtain ⟨j, p, h1, h2, h3, h4⟩ := hi.e1 d j1 hj1
      have hne : j ≠ i := fun e => by subst e; rw [hD] at h3; cases h3
      exact ⟨j, p, h1, h2, bit_or.2 (.inl h3), by simp only [upd, hne, if_false]; exact h4⟩
  · unfold idx
    split
    · simp
    · rename_i hne
      rcases bit_or.1 hb with hb | rfl
      · have := hi.e2 j p d hj hb hp
        cases hx : idx d ds with
        | none => exact absurd hx this
        | some _ => simp
      · rw [ho] at hj
        cases hj
        exact absurd hp hne
  · unfold idx at h
    split at h
    · cases h
    · rename_i hne
      have h' : idx d ds = none := by
        cases hx : idx d ds with
        | none => rfl
        | some _ => rw [hx] at h; cases h
      rw [← hi.e3 d hdn h']
      cases hds : o.dst with
      | none => rfl
      | some d' =>
        have hdd : d ≠ d' := fun e => hne (by rw [hds, e])
        show getT (path dt d) (if lo d' then t else t.set (path dt d') v) = getT (path dt d) t
        split
        · rfl
        · have hp : path dt d ≠ path dt d' := fun e => hdd (path_inj dt d d' (Nat.lt_of_lt_of_le hdn hn) (Nat.lt_of_lt_of_le (hd d' hds) hn) e)
          rw [getT_get, T4.get_set_other _ _ _ _ (by rw [path_len, path_len]) hp, ← getT_get]
theorem trace_of (hn : n ≤ 4 ^ dt) (hon : onceB (dstsOf ops) = true) (hop : ∀ ds o q, opM ds o = some q → OmOk P G dt n ds o q) {hd : Hd} (hok : HdOk P G hd) : ∀ (pl : List PI) (ds : List (Option Nat)) (e : Env) (t : Tr) (hp : HP) (val : Nat → AV) (rid : Nat → Option Id) (D E : Nat) (C : List Nat) (k : KC) (r : AV × HP),
    planB ops ms kindM pl D E C = true → EnvInv dt n lo ops t0 ds e t val D → (∀ c ∈ C, D.testBit c = true ∧ subB (ms.getD c 0) D = true) → (∀ i, D.testBit i = true → subB (ms.getD i 0) D = true) → (planM G dt n lo opM ops kindM pl ds).run hd e t hp k = some r →
    ∃ x t' hp', k x t' hp' = some r ∧ Trace P G dt n lo ops ms kindM t0 pl val rid t hp x t' hp'
  | [], ds, e, t, hp, val, rid, D, E, C, k, r, hpl, hi, hC, hDs, hr => ⟨.normal, t, hp, hr, rfl, rfl, rfl⟩
  | .run i :: pl, ds, e, t, hp, val, rid, D, E, _ :: _, k, r, hpl, hi, hC, hDs, hr => by cases hpl
  | .chk i :: pl, ds, e, t, hp, val, rid, D, E, [], k, r, hpl, hi, hC, hDs, hr => by cases hpl
  | .run i :: pl, ds, e, t, hp, val, rid, D, E, [], k, r, hpl, hi, hC, hDs, hr => by
    unfold planB at hpl
    unfold planM at hr
    cases ho : ops[i]? with
    | none => simp only [ho] at hr; cases hr
    | some o =>
    simp only [ho] at hr hpl
    cases hom : opM ds o with
    | none => simp only [hom] at hr; cases hr
    | some km =>
    obtain ⟨kd, m⟩ := km
    simp only [hom] at hr
    split at hr
    · cases hr
    rename_i hkd
    have hkd' := Kd.same_eq hkd
    simp only [Bool.and_eq_true, Bool.not_eq_true'] at hpl
    obtain ⟨⟨⟨⟨h1, h2⟩, h3⟩, h4⟩, h5⟩ := hpl
    obtain ⟨hA, hAg⟩ := evalA (G := G) hon hi ho h2 h4 (.inl h1)
    have hm := hop ds o _ hom
    have main : ∀ (t2 : AV → Tr), (∀ d, o.dst = some d → d < n) → (∀ v, t2 v = putT dt lo t o.dst v) →
        (wantedM G dt n ds ops o m).run hd e t hp (fun v hp => (planM G dt n lo opM ops kindM pl (o.dst :: ds)).run hd (v :: e) (t2 v) hp k) (fun v hp => k (.pan v) (wipe dt n lo ops.toList t) hp) = some r →
        ∃ x t' hp', k x t' hp' = some r ∧ Trace P G dt n lo ops ms kindM t0 (.run i :: pl) val rid t hp x t' hp' := by
      intro t2 hdl ht2 hrun
      have hDs' : ∀ j, (Nat.lor D (bitOf i)).testBit j = true → subB (ms.getD j 0) (Nat.lor D (bitOf i)) = true := by
        intro j hj
        have mono : ∀ a, subB a D = true → subB a (Nat.lor D (bitOf i)) = true := by
          intro a ha
          have e : a &&& (D ||| bitOf i) = a := by
           apply Nat.eq_of_testBit_eq
           intro q
           rw [Nat.testBit_and, Nat.testBit_or]
           cases hq : a.testBit q with
           | false => rfl
           | true => rw [subB_ok ha hq]; rfl
          show Nat.beq (a &&& (D ||| bitOf i)) a = true
          rw [e, Nat.beq_refl]
        rcases bit_or.1 hj with hj | rfl
        · exact mono _ (hDs j hj)
        · exact mono _ h2
      have next : ∀ v hp1 rid', (∀ E' C', (planB ops ms kindM pl (Nat.lor D (bitOf i)) E' C' = true → (∀ c ∈ C', (Nat.lor D (bitOf i)).testBit c = true) → (planM G dt n lo opM ops kindM pl (o.dst :: ds)).run hd (v :: e) (t2 v) hp1 k = some r →
          ∃ x t' hp', k x t' hp' = some r ∧ Trace P G dt n lo ops ms kindM t0 pl (upd val i v) rid' (putT dt lo t o.dst v) hp1 x t' hp')) := by
        intro v hp1 rid' E' C' hpb hC' hrn
        rw [ht2 v] at hrn
        exact trace_of hn hon hop hok pl _ _ _ hp1 (upd val i v) rid' _ E' C' k r hpb (EnvInv.run hn hi ho h1 hdl) (fun c hc => ⟨hC' c hc, hDs' c (hC' c hc)⟩) hDs' hrn
      have dueC : ∀ c ∈ due ms kindM i D ops.toList 0, (Nat.lor D (bitOf i)).testBit c = true := by
        have : ∀ (l : List Oper) (j0 : Nat), ∀ c ∈ due ms kindM i D l j0, D.testBit c = true := by
          intro l
          induction l with
          | nil => intro j0 c hc; cases hc
          | cons o l ih =>
            intro j0 c hc
            unfold due at hc
            split at hc
            · rename_i hb _ _
              rcases List.mem_cons.1 hc with rfl | hc
              · exact hb
              · exact ih _ c hc
            · exact ih _ c hc
        exact fun c hc => bit_or.2 (.inl (this _ _ c hc))
      cases kd with
      | pure =>
        obtain ⟨F, hF, hok1⟩ := hm
        have hm' : m = .mk (fun _ e t hp k _ => F e t hp k) := hF
        have hb : planB ops ms kindM pl (Nat.lor D (bitOf i)) E [] = true := by rw [← hkd'] at h5; exact h5
        rcases wantedM_cases hAg hrun with ⟨h6, h7⟩ | ⟨h6, h7⟩
        · rw [hm'] at h6
          obtain ⟨v, h8, h9⟩ := hok1 e t hp _ r h6
          obtain ⟨x, t', hp', k1, k2⟩ := next v hp rid E [] hb (fun _ h => by cases h) h8
          refine ⟨x, t', hp', k1, o, ho, hdl, ?_⟩
          rw [← hkd']
          exact ⟨v, .inr fun φ a w hra => ⟨h7 φ a hra, h9 φ a w (rdA_ops hA hra)⟩, k2⟩
        · obtain ⟨x, t', hp', k1, k2⟩ := next undefA hp rid E [] hb (fun _ h => by cases h) h6
          refine ⟨x, t', hp', k1, o, ho, hdl, ?_⟩
          rw [← hkd']
          exact ⟨undefA, .inl ⟨rfl, h7⟩, k2⟩
      | still =>
        obtain ⟨F, hF, hok1⟩ := hm
        have hm' : m = .mk (fun _ e t hp k _ => F e t hp k) := hF
        have hb : planB ops ms kindM pl (Nat.lor D (bitOf i)) E [] = true := by rw [← hkd'] at h5; exact h5
        rcases wantedM_cases hAg hrun with ⟨h6, h7⟩ | ⟨h6, h7⟩
        · rw [hm'] at h6
          obtain ⟨v, h8, h9⟩ := hok1 e t hp _ r h6
          obtain ⟨x, t', hp', k1, k2⟩ := next v hp rid E [] hb (fun _ h => by cases h) h8
          refine ⟨x, t', hp', k1, o, ho, hdl, ?_⟩
          rw [← hkd']
          exact ⟨v, .inr fun φ a w g1 hra g3 => ⟨h7 φ a hra, h9 φ a w g1 (rdA_ops hA hra) g3⟩, k2⟩
        · obtain ⟨x, t', hp', k1, k2⟩ := next undefA hp rid E [] hb (fun _ h => by cases h) h6
          refine ⟨x, t', hp', k1, o, ho, hdl, ?_⟩
          rw [← hkd']
          exact ⟨undefA, .inl ⟨rfl, h7⟩, k2⟩
      | make =>
        obtain ⟨F, hF, hok1⟩ := hm
        have hm' : m = .mk (fun _ e t hp k _ => F e t hp k) := hF
        have hb : planB ops ms kindM pl (Nat.lor D (bitOf i)) E [] = true := by rw [← hkd'] at h5; exact h5
        rcases wantedM_cases hAg hrun with ⟨h6, h7⟩ | ⟨h6, h7⟩
        · rw [hm'] at h6
          obtain ⟨mm, nx, v, x0, e1, e2, e3, h8, h9⟩ := hok1 e t hp _ r h6
          obtain ⟨x, t', hp', k1, k2⟩ := next v _ (fun j => if j = i then some nx else rid j) E [] hb (fun _ h => by cases h) h8
          refine ⟨x, t', hp', k1, o, ho, hdl, ?_⟩
          rw [← hkd']
          exact ⟨v, _, some nx, .inr ⟨mm, nx, x0, e1, e2, e3, rfl, rfl, fun φ a w g1 hra => ⟨h7 φ a hra, h9 φ a w g1 (rdA_ops hA hra)⟩⟩, k2⟩
        · obtain ⟨x, t', hp', k1, k2⟩ := next undefA hp (fun j => if j = i then none else rid j) E [] hb (fun _ h => by cases h) h6
          refine ⟨x, t', hp', k1, o, ho, hdl, ?_⟩
          rw [← hkd']
          exact ⟨undefA, hp, none, .inl ⟨⟨rfl, h7⟩, rfl, rfl⟩, k2⟩
      | eff =>
        have hb : planB ops ms kindM pl (Nat.lor D (bitOf i)) (Nat.lor E (bitOf i)) (due ms kindM i D ops.toList 0) = true := by rw [← hkd'] at h5; exact h5
        rcases wantedM_cases hAg hrun with ⟨h6, h7⟩ | ⟨h6, h7⟩
        · rcases (show OpOk P G dt n ds o m from hm) hd hok e t hp _ _ r h6 with ⟨v, hp1, h8, h9⟩ | ⟨v, hp1, h8, h9⟩
          · obtain ⟨x, t', hp', k1, k2⟩ := next v hp1 rid _ _ hb dueC h8
            refine ⟨x, t', hp', k1, o, ho, hdl, ?_⟩
            rw [← hkd']
            exact .inl ⟨v, hp1, fun φ B a w g1 hra g3 K Q hK => by rw [if_pos (show Region.wanted o (yielded ops a.tmps) = true from h7 φ a hra)]; exact h9 φ B a w g1 (rdA_ops hA hra) g3 K Q hK, k2⟩
          · refine ⟨.pan v, _, hp1, h8, o, ho, hdl, ?_⟩
            rw [← hkd']
            exact .inr ⟨v, hp1, fun φ B a w g1 hra g3 K Q hK => by rw [if_pos (show Region.wanted o (yielded ops a.tmps) = true from h7 φ a hra)]; exact h9 φ B a w g1 (rdA_ops hA hra) g3 K Q hK, rfl, rfl, rfl⟩
        · obtain ⟨x, t', hp', k1, k2⟩ := next undefA hp rid _ _ hb dueC h6
          refine ⟨x, t', hp', k1, o, ho, hdl, ?_⟩
          rw [← hkd']
          exact .inl ⟨undefA, hp, fun φ B a w g1 hra g3 K Q hK => by rw [if_neg (show ¬ (Region.wanted o (yielded ops a.tmps) = true) from h7 φ a hra)]; exact hK undef w ⟨φ, undefA_ok φ, Step.refl, g3⟩, k2⟩
    cases hds : o.dst with
    | none =>
      simp only [hds] at hr
      exact main (fun _ => t) (fun d e => by rw [hds] at e; cases e) (fun v => by rw [hds]; rfl) (by rw [hds]; exact hr)
    | some d =>
      simp only [hds] at hr
      by_cases hdn : d < n
      · simp only [hdn, if_true] at hr
        by_cases hl : lo d = true
        · simp only [hl, if_true] at hr
          exact main (fun _ => t) (fun d' e => by rw [hds] at e; cases e; exact hdn) (fun v => by rw [hds]; simp [putT, hl]) (by rw [hds]; exact hr)
        · simp only [hl, if_false, Bool.false_eq_true] at hr
          exact main (fun v => t.set (path dt d) v) (fun d' e => by rw [hds] at e; cases e; exact hdn) (fun v => by rw [hds]; simp [putT, hl]) (by rw [hds]; exact hr)
      · simp only [hdn, if_false] at hr
        cases hr
  | .chk i :: pl, ds, e, t, hp, val, rid, D, E, c :: C, k, r, hpl, hi, hC, hDs, hr => by
    unfold planB at hpl
    unfold planM at hr
    cases ho : ops[i]? with
    | none => simp only [ho] at hr; cases hr
    | some o =>
    simp only [ho] at hr hpl
    split at hr
    · rename_i kd m d hom hds
      split at hr
      · rename_i j hkd hj
        have hkd' := Kd.same_eq hkd
        subst hkd'
        simp only [Bool.and_eq_true, hds, Bool.not_eq_true'] at hpl
        obtain ⟨⟨⟨h1, h2⟩, h3⟩, h4⟩ := hpl
        have h1' : i = c := Nat.eq_of_beq_eq_true h1
        subst h1'
        obtain ⟨hDi, hsub⟩ := hC i (by simp)
        have hnr : ∀ d', o.dst = some d' → d' ∉ reads ops o := fun d' e hm => by rw [hds] at e; cases e; simp [hm] at h3
        obtain ⟨hA, hAg⟩ := evalA (G := G) hon hi ho hsub h2 (.inr hnr)
        obtain ⟨F, hF, hok1⟩ := hop ds o _ hom
        have hm' : m = .mk (fun _ e t hp k _ => F e t hp k) := hF
        have hval : envAt j e = val i := by
          obtain ⟨j2, o2, e1, e2, e3, e4⟩ := hi.e1 d j hj
          rw [once_ok hon e1 ho e2 hds] at e4
          exact e4
        have fin : ∀ v, (Bool.rec none ((planM G dt n lo opM ops kindM pl ds).run hd e t hp k) (eqA v (envAt j e)) : R) = some r → v = val i ∧ (planM G dt n lo opM ops kindM pl ds).run hd e t hp k = some r := by
          intro v h
          cases hq : eqA v (envAt j e) with
          | false => rw [hq] at h; cases h
          | true => rw [hq] at h; exact ⟨(eqA_eq hq).trans hval, h⟩
        have go : ∀ v, (Bool.rec none ((planM G dt n lo opM ops kindM pl ds).run hd e t hp k) (eqA v (envAt j e)) : R) = some r → FactS P G ops o (Ax G dt n ops ms val t0 i) v hp →
            ∃ x t' hp', k x t' hp' = some r ∧ Trace P G dt n lo ops ms kindM t0 (.chk i :: pl) val rid t hp x t' hp' := by
          intro v h hf
          obtain ⟨hv, h6⟩ := fin v h
          subst hv
          obtain ⟨x, t', hp', k1, k2⟩ := trace_of hn hon hop hok pl ds e t hp val rid D E C k r h4 hi (fun c hc => hC c (by simp [hc])) hDs h6
          exact ⟨x, t', hp', k1, o, ho, hf, k2⟩
        rcases wantedM_cases hAg hr with ⟨h6, h7⟩ | ⟨h6, h7⟩
        · rw [hm'] at h6
          obtain ⟨v, h8, h9⟩ := hok1 e t hp _ r h6
          exact go v h8 (.inr fun φ a w g1 hra g3 => ⟨h7 φ a hra, h9 φ a w g1 (rdA_ops hA hra) g3⟩)
        · exact go undefA h6 (.inl ⟨rfl, h7⟩)
      · cases hr
    · cases hr
end
end Go.Proofs.YtnfokaecobddkaaGreatDoor.Clo
end
