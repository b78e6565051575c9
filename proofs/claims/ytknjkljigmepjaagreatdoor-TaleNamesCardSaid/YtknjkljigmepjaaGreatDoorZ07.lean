/- Part 7 of a proof laid in parts, one behind the other; no condition of its own. -/
import Derived.Test.YtknjkljigmepjaaGreatDoorZ06
import Derived.Laws.RangeString
import Derived.MapKept
import Derived.Lib.ConvBytes
import Derived.Lib.UnsafeStr
import Derived.Lib.Builder
import Derived.Laws.StructEq
import Derived.Orders
set_option linter.all false
section
namespace Go.Proofs.YtknjkljigmepjaaGreatDoor.Clo
open Go.RowKit
set_option linter.unusedVariables false
set_option linter.unusedSimpArgs false
variable [Tabs]
section
variable {P : Program} {G dt n : Nat} {ds : List (Option Nat)} {o : Oper}
theorem min_ok {x y : Operand} {ts : Array TypeId} (ho : o.op = .call { callee := .builtin .min, args := #[x, y], argTypes := ts }) :
    PureOk P G dt n ds o (fun e t0 hp k => ((opd G dt n ds x).run e t0).on_i fun kd i => ((opd G dt n ds y).run e t0).on_i fun _ j => match decide (j < i) with
      | true => k (.i kd j) hp
      | false => k (.i kd i) hp) :=
  .pure fun e t0 hp k r hr => by
    obtain ⟨kd, i, hi, h1⟩ := AV.on_i_some hr
    obtain ⟨kd', j, hj, h2⟩ := AV.on_i_some h1
    have key : k (.i kd (if j < i then j else i)) hp = some r := by
      split at h2
      · rename_i h; rw [if_pos (of_decide_eq_true h)]; exact h2
      · rename_i h; rw [if_neg (of_decide_eq_false h)]; exact h2
    refine ⟨_, key, fun φ a w hx => ⟨_, ?_, rfl⟩⟩
    have e1 : a.eval x = .int kd i := by have := (hx x (by rw [ho]; simp [Op.operands, Call.operands])); rw [hi] at this; exact this
    have e2 : a.eval y = .int kd' j := by have := (hx y (by rw [ho]; simp [Op.operands, Call.operands])); rw [hj] at this; exact this
    unfold execOp
    simp only [ho, resolve, invoke, builtin, Sem.run_bind, Sem.run_pure, Result.andThen_ok, List.map_toArray, List.map_cons, List.map_nil, e1, e2, run_min_int2]
theorem max_ok {x y : Operand} {ts : Array TypeId} (ho : o.op = .call { callee := .builtin .max, args := #[x, y], argTypes := ts }) :
    PureOk P G dt n ds o (fun e t0 hp k => ((opd G dt n ds x).run e t0).on_i fun kd i => ((opd G dt n ds y).run e t0).on_i fun _ j => match decide (j > i) with
      | true => k (.i kd j) hp
      | false => k (.i kd i) hp) :=
  .pure fun e t0 hp k r hr => by
    obtain ⟨kd, i, hi, h1⟩ := AV.on_i_some hr
    obtain ⟨kd', j, hj, h2⟩ := AV.on_i_some h1
    have key : k (.i kd (if j > i then j else i)) hp = some r := by
      split at h2
      · rename_i h; rw [if_pos (of_decide_eq_true h)]; exact h2
      · rename_i h; rw [if_neg (of_decide_eq_false h)]; exact h2
    refine ⟨_, key, fun φ a w hx => ⟨_, ?_, rfl⟩⟩
    have e1 : a.eval x = .int kd i := by have := (hx x (by rw [ho]; simp [Op.operands, Call.operands])); rw [hi] at this; exact this
    have e2 : a.eval y = .int kd' j := by have := (hx y (by rw [ho]; simp [Op.operands, Call.operands])); rw [hj] at this; exact this
    unfold execOp
    simp only [ho, resolve, invoke, builtin, Sem.run_bind, Sem.run_pure, Result.andThen_ok, List.map_toArray, List.map_cons, List.map_nil, e1, e2, run_max_int2]
theorem min3_ok {x y z : Operand} {ts : Array TypeId} (ho : o.op = .call { callee := .builtin .min, args := #[x, y, z], argTypes := ts }) :
    PureOk P G dt n ds o (fun e t0 hp k => ((opd G dt n ds x).run e t0).on_i fun kd i => ((opd G dt n ds y).run e t0).on_i fun _ j => ((opd G dt n ds z).run e t0).on_i fun _ l => match decide (j < i) with
      | true => (match decide (l < j) with
        | true => k (.i kd l) hp
        | false => k (.i kd j) hp)
      | false => (match decide (l < i) with
        | true => k (.i kd l) hp
        | false => k (.i kd i) hp)) :=
  .pure fun e t0 hp k r hr => by
    obtain ⟨kd, i, hi, h1⟩ := AV.on_i_some hr
    obtain ⟨kd', j, hj, h2⟩ := AV.on_i_some h1
    obtain ⟨kd2, l, hl, h3⟩ := AV.on_i_some h2
    have key : k (.i kd (if l < (if j < i then j else i) then l else (if j < i then j else i))) hp = some r := by
      split at h3
      · rename_i h
        rw [if_pos (of_decide_eq_true h)]
        split at h3
        · rename_i h; rw [if_pos (of_decide_eq_true h)]; exact h3
        · rename_i h; rw [if_neg (of_decide_eq_false h)]; exact h3
      · rename_i h
        rw [if_neg (of_decide_eq_false h)]
        split at h3
        · rename_i h; rw [if_pos (of_decide_eq_true h)]; exact h3
        · rename_i h; rw [if_neg (of_decide_eq_false h)]; exact h3
    refine ⟨_, key, fun φ a w hx => ⟨_, ?_, rfl⟩⟩
    have e1 : a.eval x = .int kd i := by have := (hx x (by rw [ho]; simp [Op.operands, Call.operands])); rw [hi] at this; exact this
    have e2 : a.eval y = .int kd' j := by have := (hx y (by rw [ho]; simp [Op.operands, Call.operands])); rw [hj] at this; exact this
    have e3 : a.eval z = .int kd2 l := by have := (hx z (by rw [ho]; simp [Op.operands, Call.operands])); rw [hl] at this; exact this
    unfold execOp
    simp only [ho, resolve, invoke, builtin, Sem.run_bind, Sem.run_pure, Result.andThen_ok, List.map_toArray, List.map_cons, List.map_nil, e1, e2, e3]
    simp [Builtin.min_, Builtin.min2, Result.andThen]
theorem max3_ok {x y z : Operand} {ts : Array TypeId} (ho : o.op = .call { callee := .builtin .max, args := #[x, y, z], argTypes := ts }) :
    PureOk P G dt n ds o (fun e t0 hp k => ((opd G dt n ds x).run e t0).on_i fun kd i => ((opd G dt n ds y).run e t0).on_i fun _ j => ((opd G dt n ds z).run e t0).on_i fun _ l => match decide (j > i) with
      | true => (match decide (l > j) with
        | true => k (.i kd l) hp
        | false => k (.i kd j) hp)
      | false => (match decide (l > i) with
        | true => k (.i kd l) hp
        | false => k (.i kd i) hp)) :=
  .pure fun e t0 hp k r hr => by
    obtain ⟨kd, i, hi, h1⟩ := AV.on_i_some hr
    obtain ⟨kd', j, hj, h2⟩ := AV.on_i_some h1
    obtain ⟨kd2, l, hl, h3⟩ := AV.on_i_some h2
    have key : k (.i kd (if l > (if j > i then j else i) then l else (if j > i then j else i))) hp = some r := by
      split at h3
      · rename_i h
        rw [if_pos (of_decide_eq_true h)]
        split at h3
        · rename_i h; rw [if_pos (of_decide_eq_true h)]; exact h3
        · rename_i h; rw [if_neg (of_decide_eq_false h)]; exact h3
      · rename_i h
        rw [if_neg (of_decide_eq_false h)]
        split at h3
        · rename_i h; rw [if_pos (of_decide_eq_true h)]; exact h3
        · rename_i h; rw [if_neg (of_decide_eq_false h)]; exact h3
    refine ⟨_, key, fun φ a w hx => ⟨_, ?_, rfl⟩⟩
    have e1 : a.eval x = .int kd i := by have := (hx x (by rw [ho]; simp [Op.operands, Call.operands])); rw [hi] at this; exact this
    have e2 : a.eval y = .int kd' j := by have := (hx y (by rw [ho]; simp [Op.operands, Call.operands])); rw [hj] at this; exact this
    have e3 : a.eval z = .int kd2 l := by have := (hx z (by rw [ho]; simp [Op.operands, Call.operands])); rw [hl] at this; exact this
    unfold execOp
    simp only [ho, resolve, invoke, builtin, Sem.run_bind, Sem.run_pure, Result.andThen_ok, List.map_toArray, List.map_cons, List.map_nil, e1, e2, e3]
    simp [Builtin.max_, Builtin.max2, Result.andThen]
theorem assert_ok {x : Operand} {xT t : TypeId} {d : TypeDesc} (ho : o.op = .typeAssert x xT t false) (hu : P.underlying t = some d) (hd : ∀ m, d ≠ .interface m) :
    PureOk P G dt n ds o (fun e t0 hp k => match (opd G dt n ds x).run e t0 with
      | .ifc t' v => match Nat.beq t' t with
        | true => k v hp
        | false => none
      | _ => none) :=
  .pure fun e t0 hp k r hr => by
    split at hr
    · rename_i t' v h
      split at hr
      · rename_i ht
        have ht' := Nat.eq_of_beq_eq_true ht
        subst ht'
        refine ⟨_, hr, fun φ a w hx => ?_⟩
        have hv := (hx x (by rw [ho]; simp [Op.operands, Call.operands]))
        rw [h] at hv
        obtain ⟨v', e1, e2⟩ := hv
        refine ⟨v', ?_, e2⟩
        unfold execOp
        rw [ho]
        cases d <;> first | (exact absurd rfl (hd _)) | simp [Instr.typeAssert, run_underlying hu, e1]
      · cases hr
    · cases hr
theorem sliceP_ok {t el : TypeId} {len : Nat} {i : TypeInfo} {x : Operand} {low high : Option Operand} (ho : o.op = .slice t x low high none) (hu : P.underlying t = some (.array len el)) (hi : P.info? el = some i) :
    PureOk P G dt n ds o (fun e t0 hp k => ((opd G dt n ds x).run e t0).on_p fun r q => boundR (high.map (opd G dt n ds)) len e t0 fun h => boundR (low.map (opd G dt n ds)) 0 e t0 fun b => match Nat.ble b h with
      | false => none
      | true => match Nat.ble h len with
        | false => none
        | true => match Nat.beq len b with
          | true => k (.sl r q (Nat.sub h b) (some (Nat.sub len b))) hp
          | false => k (.sl r (Nat.add q (Nat.mul b i.size)) (Nat.sub h b) (some (Nat.sub len b))) hp) :=
  .pure fun e t0 hp k r hr => by
    obtain ⟨b0, q, hb0, h1⟩ := AV.on_p_some hr
    obtain ⟨h, h2, hh⟩ := boundR_some h1
    obtain ⟨b, h3, hb⟩ := boundR_some h2
    split at h3
    · cases h3
    rename_i c1
    split at h3
    · cases h3
    rename_i c2
    have c1' : b ≤ h := Nat.le_of_ble_eq_true c1
    have c2' : h ≤ len := Nat.le_of_ble_eq_true c2
    have key : k (.sl b0 (if len = b then q else q + b * i.size) (h - b) (some (len - b))) hp = some r := by
      split at h3
      · rename_i c3
        rw [if_pos (Nat.eq_of_beq_eq_true c3)]; exact h3
      · rename_i c3
        rw [if_neg (fun e => by subst e; rw [Nat.beq_refl] at c3; cases c3)]; exact h3
    refine ⟨_, key, fun φ a w hx => ?_⟩
    obtain ⟨g, hg, e1⟩ : ∃ g, φ b0 = some g ∧ a.eval x = .pointer (some ⟨g.1, g.2.2 + q, none⟩) := by have := (hx x (by rw [ho]; simp [Op.operands, Call.operands])); rw [hb0] at this; exact this
    have hrun := bounds_run (P := P) (w := w) false (hb φ a.eval (fun y h => hx y (by rw [ho, h]; simp [Op.operands, Call.operands]))) (hh φ a.eval (fun y h => hx y (by rw [ho, h]; simp [Op.operands, Call.operands]))) c2' c1'
    refine ⟨.slice (some ⟨g.1, g.2.2 + (if len = b then q else q + b * i.size), none⟩) (h - b) (len - b), ?_, g, _, hg, rfl, Nat.sub_le_sub_right c2' _, fun _ h => by cases h; rfl⟩
    unfold execOp
    rw [ho]
    by_cases c3 : len = b
    · subst c3
      simp [Instr.sliceAt, run_underlying hu, Instr.sureAddr, e1, hrun, sizeOf, typeInfo, hi]
    · simp [Instr.sliceAt, run_underlying hu, Instr.sureAddr, e1, hrun, sizeOf, typeInfo, hi, c3, add_lit, Nat.add_assoc]
end
end Go.Proofs.YtknjkljigmepjaaGreatDoor.Clo
end
section
namespace Go.Proofs.YtknjkljigmepjaaGreatDoor.Clo
open Go.RowKit
set_option linter.unusedVariables false
set_option linter.unusedSimpArgs false
variable [Tabs]
noncomputable def newB (x : Blk) (hp : HP) (k : Id → HP → R) : R :=
  hp.on fun m nx => match last nx with
    | true => none
    | false => k nx (.mk (m.set nx x) (inc nx))
theorem newB_some {x : Blk} {hp : HP} {k : Id → HP → R} {r : AV × HP} (h : newB x hp k = some r) : ∃ m nx, hp = .mk m nx ∧ last nx = false ∧ k nx (.mk (m.set nx x) (inc nx)) = some r := by
  cases hp with
  | mk m nx =>
  have h' : (match last nx with | true => none | false => k nx (.mk (m.set nx x) (inc nx)) : R) = some r := h
  cases hl : last nx with
  | true => rw [hl] at h'; cases h'
  | false => rw [hl] at h'; exact ⟨m, nx, rfl, hl, h'⟩
section
variable {P : Program} {G dt n : Nat} {ds : List (Option Nat)} {o : Oper}
theorem makeMap_ok {t : TypeId} (ho : o.op = .makeMap t none) :
    MakeOk P G dt n ds o (fun e t0 hp k => newB (.tab .nil) hp fun r hp => k (.mp r) hp) := by
  intro e t0 hp k r hr
  obtain ⟨m, nx, e', hl, h1⟩ := newB_some hr
  refine ⟨m, nx, _, _, e', hl, rfl, h1, fun φ a w g1 g2 => ?_⟩
  refine ⟨.map (some w.heap.size), .map #[] 0, (0, 0), _, ?_, .alloc _ _, ⟨#[], 0, rfl, rfl⟩, fun ψ _ hn => ⟨_, hn, rfl⟩⟩
  unfold execOp
  rw [ho]
  rfl
theorem rangeS_ok {t : TypeId} {x : Operand} (ho : o.op = .range t x) (hu : P.underlying t = some .string) :
    MakeOk P G dt n ds o (fun e t0 hp k => ((opd G dt n ds x).run e t0).on_s fun l => newB (.iter l 0) hp fun r hp => k (.p r 0) hp) := by
  intro e t0 hp k r hr
  obtain ⟨l, hl, h0⟩ := AV.on_s_some hr
  obtain ⟨m, nx, e', hlast, h1⟩ := newB_some h0
  refine ⟨m, nx, _, _, e', hlast, rfl, h1, fun φ a w g1 g2 => ?_⟩
  have hx := g2 x (by rw [ho]; simp [Op.operands, Call.operands])
  rw [hl] at hx
  have e1 : a.eval x = .string (bytesOf l) := hx.1
  refine ⟨.pointer (some ⟨w.heap.size, 0, none⟩), .stringIter (bytesOf l) 0, (0, 0), _, ?_, .alloc _ _, ⟨rfl, rfl⟩, fun ψ _ hn => ⟨_, hn, rfl⟩⟩
  unfold execOp
  rw [ho]
  simp [Instr.range, run_underlying hu, e1]
end
end Go.Proofs.YtknjkljigmepjaaGreatDoor.Clo
end
section
namespace Go.Proofs.YtknjkljigmepjaaGreatDoor.Clo
open Go.RowKit
set_option linter.unusedVariables false
set_option linter.unusedSimpArgs false
variable [Tabs]
noncomputable def onIter (m : Mem) (r : Id) (k : List Nat → Nat → R) : R :=
  Option.rec (motive := fun _ => R) none (fun b => Blk.rec (motive := fun _ => R) (fun _ _ _ _ _ => none) (fun _ => none) k (fun _ => none) (fun _ _ => none) (fun _ _ _ => none) (fun _ => none) (fun _ => none) b) (m.get r)
theorem onIter_some {m : Mem} {r : Id} {k : List Nat → Nat → R} {x : AV × HP} (h : onIter m r k = some x) : ∃ l p, m.get r = some (.iter l p) ∧ k l p = some x := by
  unfold onIter at h
  cases e : m.get r with
  | none => rw [e] at h; cases h
  | some b =>
    rw [e] at h
    cases b with
    | row t gr fz ro cells => cases h
    | tab l => cases h
    | iter s p => exact ⟨s, p, rfl, h⟩
    | dfd b => cases h
    | loop st pend => cases h
    | chn a b c => cases h
    | num a => cases h
    | fix a => cases h
section
variable {P : Program} {G dt n : Nat} {ds : List (Option Nat)} {o : Oper}
theorem nextS_ok {x : Operand} (ho : o.op = .next x true) :
    ValOk P G dt n ds o (fun e t0 hp k => ((opd G dt n ds x).run e t0).on_p fun r q => match Nat.beq q 0 with
      | false => none
      | true => hp.on fun mem nx => onIter mem r fun l p => match Nat.blt p (lenL l) with
        | false => k (.tu (.cons (.b false) .nil)) (.mk mem nx)
        | true => nthR p l fun b => match Nat.blt b 128 with
          | false => none
          | true => k (.tu (.cons (.b true) (.cons (.i .i64 (Int.ofNat p)) (.cons (.i .i32 (Int.ofNat b)) .nil)))) (.mk (mem.set r (.iter l (Nat.add p 1))) nx)) := by
  intro e t0 hp k rr hr
  obtain ⟨r, q, hq, h1⟩ := AV.on_p_some hr
  split at h1
  · cases h1
  rename_i hq0
  have hq0' : q = 0 := Nat.eq_of_beq_eq_true hq0
  subst hq0'
  cases hp with
  | mk mem nx =>
  obtain ⟨l, p, hm, h2⟩ := onIter_some (show onIter mem r _ = some rr from h1)
  have eqs : ∀ {sts : List Site} φ (B : Bse sts) (a : Act) w, Glo G φ → OpsR G dt n ds φ e t0 a.eval o.op → WH φ B (.mk mem nx) w → ∃ g : Plc, φ r = some g ∧ a.eval x = .pointer (some ⟨g.1, 0, none⟩) ∧ w.heap[g.1]? = some (.stringIter (bytesOf l) p) ∧ g.2.2 = 0 := by
    intro sts φ B a w g1 g2 hw
    have hx := g2 x (by rw [ho]; simp [Op.operands, Call.operands])
    rw [hq] at hx
    obtain ⟨g, hg, e1⟩ := hx
    obtain ⟨ob, h3, h4⟩ := (show WR φ B mem nx w from hw).blk r _ g hm hg
    obtain ⟨h4', h5⟩ : ob = .stringIter (bytesOf l) p ∧ g.2.2 = 0 := h4
    subst h4'
    have e1' : a.eval x = .pointer (some ⟨g.1, g.2.2 + 0, none⟩) := e1
    rw [h5] at e1'
    exact ⟨g, hg, e1', h3, h5⟩
  split at h2
  · rename_i hlt
    refine ⟨_, _, h2, fun φ B a w g1 g2 hw => ?_⟩
    obtain ⟨g, hg, e1, e2, e3⟩ := eqs φ B a w g1 g2 hw
    have hn : ¬ (p < (bytesOf l).size) := by
      rw [bytes_size, ← lenL_eq]
      intro h
      have hb : Nat.blt p (lenL l) = true := by rw [Nat.blt_eq]; exact h
      rw [hb] at hlt
      cases hlt
    refine ⟨φ, .tuple #[.bool false], w, .inl ?_, ⟨_, rfl, _, _, rfl, rfl, rfl⟩, Step.refl, hw⟩
    unfold execOp
    rw [ho]
    simp [e1, Instr.next, getObj, Sem.run, e2, hn]
  · rename_i hlt
    obtain ⟨b, hb, h3⟩ := nthR_some p h2
    split at h3
    · cases h3
    rename_i hb8
    have hb8' : b < 128 := by simpa [Nat.blt_eq] using hb8
    refine ⟨_, _, h3, fun φ B a w g1 g2 hw => ?_⟩
    obtain ⟨g, hg, e1, e2, e3⟩ := eqs φ B a w g1 g2 hw
    have hp : p < (bytesOf l).size := by
      rw [bytes_size]
      exact (List.getElem?_eq_some_iff.1 hb).1
    have hgb : (bytesOf l)[p]'hp = UInt8.ofNat b := by
      have := bytes_get l p
      rw [hb, getElem?_pos (bytesOf l) p hp] at this
      exact Option.some.inj this
    have hto : ((bytesOf l)[p]'hp).toNat = b := by
      rw [hgb, UInt8.toNat_ofNat']
      exact Nat.mod_eq_of_lt (by omega)
    have hdec : Utf8.decode (bytesOf l) p = (b, 1) := by
      rw [decode_ascii (bytesOf l) p hp (by rw [hto]; exact hb8'), hto]
    have hgs : g.1 < w.heap.size := (show WR φ B mem nx w from hw).lt r g hg
    obtain ⟨s1, s2⟩ := (show WR φ B mem nx w from hw).put (w' := { w with heap := w.heap.setIfInBounds g.1 (.stringIter (bytesOf l) (p + 1)) }) (y := .iter l (p + 1)) (o := .stringIter (bytesOf l) (p + 1)) hm rfl rfl hg rfl rfl rfl (by simp)
      (fun k hk => by simp [Array.getElem?_setIfInBounds, Ne.symm hk]) (by simp [Array.getElem?_setIfInBounds, hgs]) ⟨rfl, e3⟩
    refine ⟨φ, .tuple #[.bool true, .int .i64 (p : Int), .int .i32 (b : Int)], _, .inl ?_, ⟨_, rfl, _, _, rfl, rfl, _, _, rfl, rfl, _, _, rfl, rfl, rfl⟩, s2, s1⟩
    unfold execOp
    rw [ho]
    simp [e1, Instr.next, getObj, setObj, Sem.run, e2, hp, hdec, goInt]
end
end Go.Proofs.YtknjkljigmepjaaGreatDoor.Clo
end
section
namespace Go.Proofs.YtknjkljigmepjaaGreatDoor.Clo
open Go.RowKit
set_option linter.unusedVariables false
set_option linter.unusedSimpArgs false
set_option linter.constructorNameAsVariable false
variable [Tabs]
noncomputable def keyEq : AV → AV → Option Bool
  | .s a, .s b => some (eqL a b)
  | .i k a, .i k' b => if k = k' then some (eqI a b) else none
  | _, _ => none
def keyOk : TypeDesc → AV → Bool
  | .string, .s _ => true
  | .int k, .i k' _ => decide (k' = k)
  | _, _ => false
noncomputable def findK (key : AV) : AV → Nat → (Option (Nat × AV) → R) → R
  | .nil, _, k => k none
  | .cons (.cons x v) r, j, k => match keyEq key x with
    | some true => k (some (j, v))
    | some false => findK key r (j + 1) k
    | none => none
  | _, _, _ => none
theorem bytes_inj : ∀ {a b : List Nat}, B256 a → B256 b → bytesOf a = bytesOf b → a = b := by
  intro a b ha hb h
  have h2 : a.map UInt8.ofNat = b.map UInt8.ofNat := by rw [← bytes_toList, ← bytes_toList, h]
  clear h
  induction a generalizing b with
  | nil => cases b with
    | nil => rfl
    | cons y b => cases h2
  | cons x a ih => cases b with
    | nil => cases h2
    | cons y b =>
      rw [List.map_cons, List.map_cons] at h2
      injection h2 with e1 e2
      rw [ofNat_inj (ha x (by simp)) (hb y (by simp)) e1, ih (fun z hz => ha z (by simp [hz])) (fun z hz => hb z (by simp [hz])) e2]
theorem keyOk_is {d : TypeDesc} {key : AV} (hk : keyOk d key = true) {φ : Id → Option Plc} {kv : Value} (h : VR φ key kv) : Go.MapKept.IsKey d kv := by
  unfold keyOk at hk
  split at hk
  · rw [h.1]; trivial
  · have : kv = _ := h
    rw [this]
    have hk' := of_decide_eq_true hk
    exact hk'
  · cases hk
theorem keyEq_ok {d : TypeDesc} {key x : AV} {b : Bool} (hk : keyOk d key = true) (he : keyEq key x = some b) {φ : Id → Option Plc} {kv xv : Value} (h1 : VR φ key kv) (h2 : VR φ x xv) : Instr.sameNow d kv xv = some b ∧ (b = true → xv = kv) := by
  unfold keyEq at he
  split at he
  · rename_i a a'
    cases d <;> simp only [keyOk, Bool.false_eq_true] at hk
    simp only [Option.some.injEq] at he
    obtain ⟨e1, b1⟩ := h1
    obtain ⟨e2, b2⟩ := h2
    subst e1 e2
    cases b with
    | true =>
      have := (eqL_iff a a').1 he
      subst this
      exact ⟨by simp [Instr.sameNow, (Go.MapKept.bytes_beq (bytesOf a) (bytesOf a)).2 rfl], fun _ => rfl⟩
    | false =>
      have hne : (bytesOf a == bytesOf a') = false := Bool.eq_false_iff.2 fun h => by
        have := bytes_inj b1 b2 ((Go.MapKept.bytes_beq _ _).1 h)
        rw [(eqL_iff a a').2 this] at he
        cases he
      exact ⟨by simp [Instr.sameNow, hne], fun h => by cases h⟩
  · rename_i k a k' a'
    split at he
    · rename_i hkk
      subst hkk
      cases d <;> simp only [keyOk, Bool.false_eq_true] at hk
      have e1 : kv = .int k a := h1
      have e2 : xv = .int k a' := h2
      subst e1 e2
      simp only [Option.some.injEq] at he
      rw [eqI_eq] at he
      refine ⟨by simp [Instr.sameNow, he], fun hb => ?_⟩
      subst hb
      have : a = a' := by simpa using he
      rw [this]
    · cases he
  · cases he
theorem findK_some {d : TypeDesc} {key : AV} (hk : keyOk d key = true) : ∀ {l : AV} {j0 : Nat} {k : Option (Nat × AV) → R} {x : AV × HP}, findK key l j0 k = some x → ∃ a, k a = some x ∧ ∀ φ es kv, VR φ key kv → ents φ l es →
    (a = none ∧ ∀ i, Instr.findNow d kv es i = some none) ∨ ∃ j v e, a = some (j0 + j, v) ∧ es[j]? = some e ∧ e.key = kv ∧ VR φ v e.val ∧ ∀ i, Instr.findNow d kv es i = some (some (i + j, e.val)) := by
  intro l j0 k x h
  fun_induction findK key l j0 k with
  | case1 j k => exact ⟨none, h, fun φ es kv hv he => .inl ⟨rfl, fun i => by have : es = [] := he; subst this; rfl⟩⟩
  | case2 y v r j k hy =>
    refine ⟨_, h, fun φ es kv hv he => .inr ?_⟩
    obtain ⟨e, es', e1, e2, e3, _⟩ := he
    obtain ⟨s1, s2⟩ := keyEq_ok hk hy hv e2
    subst e1
    exact ⟨0, v, e, rfl, rfl, s2 rfl, e3, fun i => by simp [Instr.findNow, s1]⟩
  | case3 y v r j k hy ih =>
    obtain ⟨a, h1, h2⟩ := ih h
    refine ⟨a, h1, fun φ es kv hv he => ?_⟩
    obtain ⟨e, es', e1, e2, e3, e4⟩ := he
    obtain ⟨s1, _⟩ := keyEq_ok hk hy hv e2
    subst e1
    rcases h2 φ es' kv hv e4 with ⟨q1, q2⟩ | ⟨j', v', e', q1, q2, q3, q4, q5⟩
    · exact .inl ⟨q1, fun i => by simp [Instr.findNow, s1, q2]⟩
    · exact .inr ⟨j' + 1, v', e', by rw [q1]; congr 2; omega, by simpa using q2, q3, q4, fun i => by simp [Instr.findNow, s1, q5]; omega⟩
  | case4 => cases h
  | case5 => cases h
noncomputable def setVal (v : AV) (n : Nat) : AV → AV :=
  Nat.rec (motive := fun _ => AV → AV) (fun l => match l with | .cons (.cons x _) r => .cons (.cons x v) r | l => l) (fun _ ih l => match l with | .cons y r => .cons y (ih r) | l => l) n
theorem ents_set {φ : Id → Option Plc} {v : AV} {kv val : Value} (hv : VR φ v val) : ∀ (j : Nat) {l : AV} {es : List MapEntry} {e : MapEntry}, ents φ l es → es[j]? = some e → e.key = kv → ents φ (setVal v j l) (es.modify j fun e => { e with key := kv, val := val })
  | j, .nil, es, e, h, he, hk => by have : es = [] := h; subst this; simp at he
  | 0, .cons (.cons x y) r, es, e, ⟨e', es', e1, e2, e3, e4⟩, he, hk => by
    subst e1
    simp at he
    subst he
    exact ⟨{ e' with key := kv, val := val }, es', by simp, by rw [← hk]; exact e2, hv, e4⟩
  | j + 1, .cons (.cons x y) r, es, e, ⟨e', es', e1, e2, e3, e4⟩, he, hk => by
    subst e1
    exact ⟨e', es'.modify j fun e => { e with key := kv, val := val }, by simp, e2, e3, ents_set hv j e4 (by simpa using he) hk⟩
theorem ents_app {φ : Id → Option Plc} {key v : AV} {e : MapEntry} (h1 : VR φ key e.key) (h2 : VR φ v e.val) : ∀ {l : AV} {es : List MapEntry}, ents φ l es → ents φ (l.app (.cons (.cons key v) .nil)) (es ++ [e])
  | .nil, es, h => by have : es = [] := h; subst this; exact ⟨e, [], rfl, h1, h2, rfl⟩
  | .cons (.cons x y) r, es, ⟨e', es', e1, e2, e3, e4⟩ => by subst e1; exact ⟨e', _, rfl, e2, e3, ents_app h1 h2 e4⟩
end Go.Proofs.YtknjkljigmepjaaGreatDoor.Clo
end
section
namespace Go.Proofs.YtknjkljigmepjaaGreatDoor.Clo
open Go.RowKit
set_option linter.unusedVariables false
set_option linter.unusedSimpArgs false
set_option linter.constructorNameAsVariable false
variable [Tabs]
noncomputable def onTab (m : Mem) (r : Id) (k : AV → R) : R :=
  Option.rec (motive := fun _ => R) none (fun b => Blk.rec (motive := fun _ => R) (fun _ _ _ _ _ => none) k (fun _ _ => none) (fun _ => none) (fun _ _ => none) (fun _ _ _ => none) (fun _ => none) (fun _ => none) b) (m.get r)
theorem onTab_some {m : Mem} {r : Id} {k : AV → R} {x : AV × HP} (h : onTab m r k = some x) : ∃ l, m.get r = some (.tab l) ∧ k l = some x := by
  unfold onTab at h
  cases e : m.get r with
  | none => rw [e] at h; cases h
  | some b =>
    rw [e] at h
    cases b with
    | row t gr fz ro cells => cases h
    | tab l => exact ⟨l, rfl, h⟩
    | iter s p => cases h
    | dfd b => cases h
    | loop st pend => cases h
    | chn a b c => cases h
    | num a => cases h
    | fix a => cases h
noncomputable def finF (z : Value) (ok : Bool) (hp : HP) (k : KV) (q : Option (Nat × AV)) : R := match ok, q with
  | true, some (_, v) => k (.tu (.cons v (.cons (.b true) .nil))) hp
  | true, none => k (.tu (.cons (ofConst z) (.cons (.b false) .nil))) hp
  | false, some (_, v) => k v hp
  | false, none => k (ofConst z) hp
def finV (z : Value) (ok : Bool) (q : Option (Nat × Value)) : Value := match ok, q with
  | true, some (_, v) => .tuple #[v, .bool true]
  | true, none => .tuple #[z, .bool false]
  | false, some (_, v) => v
  | false, none => z
noncomputable def lookF (d : TypeDesc) (z : Value) (ok : Bool) (key a : AV) (hp : HP) (k : KV) : R := match keyOk d key with
  | false => none
  | true => match a with
    | .mn => finF z ok hp k none
    | .mp r => hp.on fun mem _ => onTab mem r fun l => findK key l 0 (finF z ok hp k)
    | _ => none
noncomputable def updF (d : TypeDesc) (key v a : AV) (hp : HP) (k : KV) : R := match keyOk d key with
  | false => none
  | true => a.on_mp fun r => hp.on fun mem nx => onTab mem r fun l => findK key l 0 fun q => match q with
    | none => k undefA (.mk (mem.set r (.tab (l.app (.cons (.cons key v) .nil)))) nx)
    | some (j, _) => k undefA (.mk (mem.set r (.tab (setVal v j l))) nx)
section
variable {P : Program} {G dt n : Nat} {ds : List (Option Nat)} {o : Oper}
theorem lookup_ok {mT kt el : TypeId} {x y : Operand} {ok : Bool} {i : TypeInfo} {z : Value} {d : TypeDesc} (ho : o.op = .lookup mT x y ok) (hu : P.underlying mT = some (.map kt el)) (hk : P.underlying kt = some d) (hi : P.info? el = some i) (hz : i.zero = some z) :
    StillOk P G dt n ds o (fun e t0 hp k => lookF d z ok ((opd G dt n ds y).run e t0) ((opd G dt n ds x).run e t0) hp k) :=
  fun e t0 hp k r hr => by
    have h1 : lookF d z ok ((opd G dt n ds y).run e t0) ((opd G dt n ds x).run e t0) hp k = some r := hr
    unfold lookF at h1
    split at h1
    · cases h1
    rename_i hko
    have run : ∀ (w : World) (es : List MapEntry) (m key : Value) (q : Option (Nat × Value)), Go.MapKept.IsKey d key → ((m = .map none ∧ es = []) ∨ ∃ g arr c, m = .map (some g) ∧ w.heap[g]? = some (.map arr c) ∧ arr.toList = es) → Instr.findNow d key es 0 = some q →
        (Instr.lookup mT m key ok).run P w = .ok (finV z ok q) w := by
      intro w es m key q hkey hm hq
      have hf := Go.MapKept.run_findKey (P := P) (w := w) hk hq
      have hc : ∀ e, (Instr.checkKey e 10000 kt key).run P w = .ok () w := fun e => Go.MapKept.run_checkKey hk hkey e 9999
      rcases hm with ⟨rfl, rfl⟩ | ⟨g, arr, c, rfl, hg, rfl⟩
      · cases hq
        cases ok <;> simp [Instr.lookup, run_underlying hu, hc, hf, zeroValue, typeInfo, hi, hz, finV]
      · cases ok <;> rcases q with _ | ⟨j, v⟩ <;> simp [Instr.lookup, run_underlying hu, getObj, Sem.run, hg, hc, hf, zeroValue, typeInfo, hi, hz, finV]
    have fin : ∀ q : Option (Nat × AV), finF z ok hp k q = some r → ∃ v, k v hp = some r ∧ ∀ φ (p : Option (Nat × Value)), ((q = none ∧ p = none) ∨ ∃ j j' u w, q = some (j', u) ∧ p = some (j, w) ∧ VR φ u w) → VR φ v (finV z ok p) := by
      intro q hq
      cases ok <;> rcases q with _ | ⟨j', u⟩
      · refine ⟨_, hq, fun φ p hp => ?_⟩
        rcases hp with ⟨_, rfl⟩ | ⟨j, j', u, w, h, _⟩
        · exact ofConst_ok φ z
        · cases h
      · refine ⟨_, hq, fun φ p hp => ?_⟩
        rcases hp with ⟨h, _⟩ | ⟨j, j', u, w, h, rfl, hv⟩
        · cases h
        · cases h; exact hv
      · refine ⟨_, hq, fun φ p hp => ?_⟩
        rcases hp with ⟨_, rfl⟩ | ⟨j, j', u, w, h, _⟩
        · exact ⟨_, rfl, _, _, rfl, ofConst_ok φ z, _, _, rfl, rfl, rfl⟩
        · cases h
      · refine ⟨_, hq, fun φ p hp => ?_⟩
        rcases hp with ⟨h, _⟩ | ⟨j, j', u, w, h, rfl, hv⟩
        · cases h
        · cases h; exact ⟨_, rfl, _, _, rfl, hv, _, _, rfl, rfl, rfl⟩
    have wrap : ∀ (a : Act) (w : World) (v' : Value), (Instr.lookup mT (a.eval x) (a.eval y) ok).run P w = .ok v' w → (execOp a.eval o).run P w = .ok (.value v') w := by
      intro a w v' h
      unfold execOp
      simp only [ho, Sem.run_bind, h, Result.andThen_ok]
      rfl
    split at h1
    · rename_i hm
      obtain ⟨v, h2, h3⟩ := fin none h1
      refine ⟨v, h2, fun φ a w _ hx hw => ?_⟩
      have e1 : a.eval x = .map none := by have := hx x (by rw [ho]; simp [Op.operands]); rw [hm] at this; exact this
      have hkey := keyOk_is hko (hx y (by rw [ho]; simp [Op.operands]))
      exact ⟨_, wrap a w _ (run w [] (a.eval x) _ none hkey (.inl ⟨e1, rfl⟩) rfl), h3 φ none (.inl ⟨rfl, rfl⟩)⟩
    · rename_i r0 hm
      cases hp with
      | mk mem nx =>
      obtain ⟨l, hl, h2⟩ := onTab_some (show onTab mem r0 _ = some r from h1)
      obtain ⟨q, h3, h4⟩ := findK_some hko h2
      obtain ⟨v, h5, h6⟩ := fin q h3
      refine ⟨v, h5, fun φ a w _ hx hw => ?_⟩
      obtain ⟨g, hg, e1⟩ : ∃ g, φ r0 = some g ∧ a.eval x = .map (some g.1) := by have := hx x (by rw [ho]; simp [Op.operands]); rw [hm] at this; exact this
      have hky := hx y (by rw [ho]; simp [Op.operands])
      have hkey := keyOk_is hko hky
      obtain ⟨ob, h7, es, c, h8, h9⟩ := (show RW φ mem w from hw).blk r0 _ g hl hg
      subst h8
      rcases h4 φ es.toList _ hky h9 with ⟨hq, hf⟩ | ⟨j, u, e', hq, _, _, hv, hf⟩
      · exact ⟨_, wrap a w _ (run w es.toList (a.eval x) _ _ hkey (.inr ⟨g.1, es, c, e1, h7, rfl⟩) (hf 0)), h6 φ _ (.inl ⟨hq, rfl⟩)⟩
      · exact ⟨_, wrap a w _ (run w es.toList (a.eval x) _ _ hkey (.inr ⟨g.1, es, c, e1, h7, rfl⟩) (hf 0)), h6 φ _ (.inr ⟨_, _, u, _, hq, rfl, hv⟩)⟩
    · cases h1
theorem update_ok {mT kt el : TypeId} {x y u : Operand} {d : TypeDesc} (ho : o.op = .mapUpdate mT x y u ∨ o.op = .insert mT x y u) (hu : P.underlying mT = some (.map kt el)) (hk : P.underlying kt = some d) :
    ValOk P G dt n ds o (fun e t0 hp k => updF d ((opd G dt n ds y).run e t0) ((opd G dt n ds u).run e t0) ((opd G dt n ds x).run e t0) hp k) := by
  intro e t0 hp k r hr
  have h1 : updF d ((opd G dt n ds y).run e t0) ((opd G dt n ds u).run e t0) ((opd G dt n ds x).run e t0) hp k = some r := hr
  unfold updF at h1
  split at h1
  · cases h1
  rename_i hko
  obtain ⟨r0, hm, h1⟩ := AV.on_mp_some h1
  cases hp with
  | mk mem nx =>
  obtain ⟨l, hl, h2⟩ := onTab_some (show onTab mem r0 _ = some r from h1)
  obtain ⟨q, h3, h4⟩ := findK_some hko h2
  have key : ∀ l', k undefA (.mk (mem.set r0 (.tab l')) nx) = some r → (∀ φ (es : Array MapEntry) (c : Nat) kv val, VR φ ((opd G dt n ds y).run e t0) kv → VR φ ((opd G dt n ds u).run e t0) val → Go.MapKept.IsKey d kv → ents φ l es.toList →
        ∃ es' c', ents φ l' es'.toList ∧ ∀ w (g : Nat), w.heap[g]? = some (.map es c) → (Instr.mapUpdate mT (.map (some g)) kv val).run P w = .ok () { w with heap := w.heap.setIfInBounds g (.map es' c') }) →
      ∃ v hp', k v hp' = some r ∧ ∀ {sts : List Site} φ (B : Bse sts) (a : Act) w, Glo G φ → OpsR G dt n ds φ e t0 a.eval o.op → WH φ B (.mk mem nx) w →
        ∃ ψ v' w', ((execOp a.eval o).run P w = .ok (.value v') w' ∨ ((execOp a.eval o).run P w = .ok .skip w' ∧ v' = undef)) ∧ VR ψ v v' ∧ StH φ (.mk mem nx) w ψ hp' w' ∧ WH ψ B hp' w' := by
    intro l' hk' hall
    refine ⟨undefA, _, hk', fun φ B a w g1 hx hw => ?_⟩
    have mem3 : x ∈ o.op.operands ∧ y ∈ o.op.operands ∧ u ∈ o.op.operands := by rcases ho with ho | ho <;> (rw [ho]; simp [Op.operands])
    obtain ⟨g, hg, e1⟩ : ∃ g, φ r0 = some g ∧ a.eval x = .map (some g.1) := by have := hx x mem3.1; rw [hm] at this; exact this
    have hky := hx y mem3.2.1
    have hkey := keyOk_is hko hky
    have hw' : WR φ B mem nx w := hw
    obtain ⟨ob, h7, es, c, h8, h9⟩ := hw'.blk r0 _ g hl hg
    subst h8
    obtain ⟨es', c', f1, f2⟩ := hall φ es c _ _ hky (hx u mem3.2.2) hkey h9
    have hrun := f2 w g.1 h7
    have hgs := hw'.lt r0 g hg
    obtain ⟨s1, s2⟩ := hw'.put (w' := { w with heap := w.heap.setIfInBounds g.1 (.map es' c') }) (y := .tab l') (o := .map es' c') hl rfl rfl hg rfl rfl rfl (by simp)
      (fun k hk => by simp [Array.getElem?_setIfInBounds, Ne.symm hk]) (by simp [Array.getElem?_setIfInBounds, hgs]) ⟨es', c', rfl, f1⟩
    refine ⟨φ, undef, _, .inr ⟨?_, rfl⟩, undefA_ok φ, s2, s1⟩
    unfold execOp
    rcases ho with ho | ho <;> (simp only [ho, e1, Sem.run_bind, hrun, Result.andThen_ok]; rfl)
  cases q with
  | none =>
    refine key _ h3 fun φ es c kv val hky hval hkey he => ?_
    rcases h4 φ es.toList kv hky he with ⟨_, hf⟩ | ⟨_, _, _, hq, _⟩
    · refine ⟨es.push { key := kv, val, born := c }, c + 1, by rw [Array.toList_push]; exact ents_app (e := { key := kv, val, born := c }) hky hval he, fun w g hb => ?_⟩
      simp [Instr.mapUpdate, run_underlying hu, Go.MapKept.run_getObj_map hb, Go.MapKept.run_checkKey hk hkey, Go.MapKept.run_findKey hk (hf 0), Go.MapKept.run_setObj_map _ hb, Result.andThen]
    · cases hq
  | some jv =>
    obtain ⟨j0, v0⟩ := jv
    refine key _ h3 fun φ es c kv val hky hval hkey he => ?_
    rcases h4 φ es.toList kv hky he with ⟨hq, _⟩ | ⟨j, v', e', hq, hj, hek, _, hf⟩
    · cases hq
    · simp only [Option.some.injEq, Prod.mk.injEq, Nat.zero_add] at hq
      obtain ⟨rfl, _⟩ := hq
      have hf0 := hf 0
      rw [Nat.zero_add] at hf0
      have hj' : es[j0]? = some e' := by rw [← Array.getElem?_toList]; exact hj
      refine ⟨es.modify j0 fun e => { e with key := kv, val := val }, c, by rw [Array.toList_modify]; exact ents_set hval j0 he hj hek, fun w g hb => ?_⟩
      simp [Instr.mapUpdate, run_underlying hu, Go.MapKept.run_getObj_map hb, Go.MapKept.run_checkKey hk hkey, Go.MapKept.run_findKey hk hf0, hj', hek, Go.MapKept.run_keyThatStays hkey, Go.MapKept.run_setObj_map _ hb, Result.andThen]
end
end Go.Proofs.YtknjkljigmepjaaGreatDoor.Clo
end
section
namespace Go.Proofs.YtknjkljigmepjaaGreatDoor.Clo
open Go.RowKit
set_option linter.unusedVariables false
set_option linter.unusedSimpArgs false
set_option linter.constructorNameAsVariable false
variable [Tabs]
section
variable {P : Program} {G dt n : Nat} {ds : List (Option Nat)} {o : Oper}
theorem convBytes_ok {s t el : TypeId} {x : Operand} {u : TypeDesc} (ho : o.op = .convert s t x) (hs : P.underlying s = some u) (ht : P.underlying t = some (.slice el)) (he : P.underlying el = some (.int .u8)) :
    MakeOk P G dt n ds o (fun e t0 hp k => ((opd G dt n ds x).run e t0).on_s fun l => newB (.row el true (some 0) false (bytesA l)) hp fun r hp => k (.sl r 0 (lenL l) none) hp) := by
  intro e t0 hp k r hr
  obtain ⟨l, hl, h0⟩ := AV.on_s_some hr
  obtain ⟨m, nx, e', hlast, h1⟩ := newB_some h0
  refine ⟨m, nx, _, _, e', hlast, rfl, h1, fun φ a w g1 g2 => ?_⟩
  have hx := g2 x (by rw [ho]; simp [Op.operands])
  rw [hl] at hx
  obtain ⟨e1, b1⟩ := hx
  have e1' : a.eval x = .string (bytesOf l) := e1
  have hrun := Lib.run_convert_string_bytes (P := P) w s t el (bytesOf l) hs ht he
  have hsz : (bytesOf l).size = l.length := bytes_size l
  have hge : (bytesOf l).size ≤ grownCap w (bytesOf l).size 0 el := grownCap_ge w _ _ _
  refine ⟨.slice (some ⟨w.heap.size, 0, none⟩) (bytesOf l).size (grownCap w (bytesOf l).size 0 el), .cells (Lib.bytesCells w el (bytesOf l)) el ((Lib.bytesCells w el (bytesOf l)).size, (Lib.bytesCells w el (bytesOf l)).size + 1), ((Lib.bytesCells w el (bytesOf l)).size, 0), Lib.bytesWorld w el (bytesOf l), ?_,
    ⟨?_, ?_, ?_, Lib.bytesWorld_size w el _, fun j hj => Lib.bytesWorld_at_old w el _ j hj, Lib.bytesWorld_at_new w el _⟩, ?_, fun ψ _ hn => ⟨_, _, hn, by rw [hsz, lenL_eq], by rw [lenL_eq, ← hsz]; exact hge, fun _ h => by cases h⟩⟩
  · unfold execOp
    simp only [ho, e1', Sem.run_bind, hrun, Result.andThen_ok]
    rfl
  · simp [Lib.bytesWorld, World.freeze] <;> rfl
  · simp [Lib.bytesWorld, World.freeze] <;> rfl
  · simp [Lib.bytesWorld, World.freeze] <;> rfl
  · refine ⟨_, [], byteCells (bytesOf l), (Array.replicate (grownCap w (bytesOf l).size 0 el - (bytesOf l).size) (.int .u8 0)).toList, _, rfl, ?_, bytesA_ok b1, (fun h => by cases h), rfl, rfl, fun i hi h1 _ => absurd h1 (by simp only; omega)⟩
    simp [Lib.bytesCells, byteCells]
noncomputable def eqD (a b : D4) : Bool := D4.rec (motive := fun _ => Bool) (D4.rec true false false false b) (D4.rec false true false false b) (D4.rec false false true false b) (D4.rec false false false true b) a
noncomputable def eqId (a : Id) : Id → Bool :=
  List.rec (motive := fun _ => Id → Bool) (fun b => List.rec true (fun _ _ _ => false) b) (fun x _ ih b => List.rec false (fun y r _ => Bool.rec false (ih r) (eqD x y)) b) a
theorem eqD_eq {a b : D4} (h : eqD a b = true) : a = b := by cases a <;> cases b <;> first | rfl | cases h
theorem eqId_eq : ∀ {a b : Id}, eqId a b = true → a = b
  | [], [], _ => rfl
  | [], _ :: _, h => by cases h
  | _ :: _, [], h => by cases h
  | x :: a, y :: b, h => by
    have h' : (Bool.rec false (eqId a b) (eqD x y) : Bool) = true := h
    cases hx : eqD x y with
    | false => rw [hx] at h'; cases h'
    | true => rw [hx] at h'; rw [eqD_eq hx, eqId_eq h']
noncomputable def ptrF (op : BinOp) (a b : AV) (q : Option AV) : Option AV := match a, b with
  | .p r i, .p r' i' => match eqId r r', Nat.beq i i' with
    | true, true => match op with
      | .eql => some (.b true)
      | .neq => some (.b false)
      | _ => none
    | _, _ => none
  | _, _ => q
theorem binP_ok {op : BinOp} {t yt e : TypeId} {x y : Operand} {i : TypeInfo} (ho : o.op = .binOp op t x y yt) (hu : P.underlying t = some (.pointer e)) (hi : P.info? e = some i) :
    PureOk P G dt n ds o (fun e t0 hp k => Option.rec (motive := fun _ => R) none (fun v => k v hp) (ptrF op ((opd G dt n ds x).run e t0) ((opd G dt n ds y).run e t0) (binF (EK.of P t) (isConst x || isConst y) op ((opd G dt n ds x).run e t0) ((opd G dt n ds y).run e t0)))) := by
  intro e t0 hp k r hr
  have hr0 : Option.rec (motive := fun _ => R) none (fun v => k v hp) (ptrF op ((opd G dt n ds x).run e t0) ((opd G dt n ds y).run e t0) (binF (EK.of P t) (isConst x || isConst y) op ((opd G dt n ds x).run e t0) ((opd G dt n ds y).run e t0))) = some r := hr
  clear hr
  have old : Option.rec (motive := fun _ => R) none (fun v => k v hp) (binF (EK.of P t) (isConst x || isConst y) op ((opd G dt n ds x).run e t0) ((opd G dt n ds y).run e t0)) = some r → _ := bin_ok (P := P) (G := G) (dt := dt) (n := n) (ds := ds) ho e t0 hp k r
  generalize hA : (opd G dt n ds x).run e t0 = A at hr0 old
  generalize hB : (opd G dt n ds y).run e t0 = B at hr0 old
  have hr' : Option.rec (motive := fun _ => R) none (fun v => k v hp) (ptrF op A B (binF (EK.of P t) (isConst x || isConst y) op A B)) = some r := hr0
  unfold ptrF at hr'
  split at hr'
  · rename_i q1 i1 q2 i2
    split at hr'
    · rename_i hq hi1
      have e1 := eqId_eq hq
      have e2 : i1 = i2 := Nat.eq_of_beq_eq_true hi1
      subst e1 e2
      have key : ∀ φ (a : Act) (w : World), OpsR G dt n ds φ e t0 a.eval o.op → ∃ ad : Addr, a.eval x = .pointer (some ad) ∧ a.eval y = .pointer (some ad) := by
        intro φ a w hx
        have h1 := hx x (by rw [ho]; simp [Op.operands])
        have h2 := hx y (by rw [ho]; simp [Op.operands])
        rw [hA] at h1
        rw [hB] at h2
        obtain ⟨g, hg, e1⟩ := h1
        obtain ⟨g', hg', e2⟩ := h2
        rw [hg] at hg'
        cases hg'
        exact ⟨_, e1, e2⟩
      have heq : ∀ (ad : Addr) w, (Op.equal t (.pointer (some ad)) (.pointer (some ad))).run P w = .ok true w := fun ad w => by
        have h : ∀ d : Nat, (Op.equalIn (d + 1) t (.pointer (some ad)) (.pointer (some ad))).run P w = .ok true w := fun d => by
          simp [Op.equalIn, run_underlying hu, sizeOf, typeInfo, hi, run_sameAddr_same]
        simp [Op.equal, Op.maxDepth, h 9999]
      have gd : ∀ (ad : Addr) w, (eqGuard op t x y (.pointer (some ad)) (.pointer (some ad))).run P w = .ok () w := fun ad w => guard_run op t x y _ _ w (.inl ⟨_, rfl, (fun _ h => by cases h), (fun h => by cases h)⟩)
      split at hr'
      · refine ⟨_, hr', fun φ a w hx => ?_⟩
        obtain ⟨ad, e1, e2⟩ := key φ a w hx
        have e3 : Go.binOp .eql t (.pointer (some ad)) (.pointer (some ad)) = (do Pure.pure (.bool (← Op.equal t (.pointer (some ad)) (.pointer (some ad))))) := rfl
        refine ⟨.bool true, ?_, rfl⟩
        unfold execOp
        rw [ho]
        simp only [e1, e2, Sem.run_bind, gd ad w, Result.andThen_ok, e3, heq ad w]
        rfl
      · refine ⟨_, hr', fun φ a w hx => ?_⟩
        obtain ⟨ad, e1, e2⟩ := key φ a w hx
        have e3 : Go.binOp .neq t (.pointer (some ad)) (.pointer (some ad)) = (do Pure.pure (.bool (!(← Op.equal t (.pointer (some ad)) (.pointer (some ad)))))) := rfl
        refine ⟨.bool false, ?_, rfl⟩
        unfold execOp
        rw [ho]
        simp only [e1, e2, Sem.run_bind, gd ad w, Result.andThen_ok, e3, heq ad w]
        rfl
      · cases hr'
    · cases hr'
  · exact old hr'
noncomputable def cellEq : TypeDesc → AV → AV → Option Bool
  | .bool, .b x, .b y => some (x == y)
  | .int k0, .i k x, .i k' y => if k = k' then some (eqI x y) else none
  | .string, .s x, .s y => some (eqL x y)
  | _, _, _ => none
noncomputable def fieldsEq : List (TypeDesc × Nat) → AV → AV → Option Bool
  | [], _, _ => some true
  | (d, off) :: r, a, b => match Nat.blt off a.len, Nat.blt off b.len with
    | true, true => match cellEq d (a.at off) (b.at off) with
      | some true => fieldsEq r a b
      | some false => some false
      | none => none
    | _, _ => none
def plainF (P : Program) : List Field → Option (List (TypeDesc × Nat))
  | [] => some []
  | f :: r => match f.name == "_", P.underlying f.type, plainF P r with
    | false, some .bool, some l => some ((.bool, f.offset) :: l)
    | false, some (.int k), some l => some ((.int k, f.offset) :: l)
    | false, some .string, some l => some ((.string, f.offset) :: l)
    | _, _, _ => none
theorem plainF_cons {f : Field} {r : List Field} {L : List (TypeDesc × Nat)} (h : plainF P (f :: r) = some L) : ∃ d l, L = (d, f.offset) :: l ∧ plainF P r = some l ∧ f.name ≠ "_" ∧ P.underlying f.type = some d ∧ (d = .bool ∨ (∃ k, d = .int k) ∨ d = .string) := by
  unfold plainF at h
  split at h <;> first | (cases h; done) | skip
  all_goals
    rename_i hn hu hl
    cases h
    exact ⟨_, _, rfl, hl, by simpa using hn, hu, by simp⟩
theorem fieldsEq_ok {φ : Id → Option Plc} {a b : AV} {xs ys : Array Value} (ha : VL φ a xs.toList) (hb : VL φ b ys.toList) (w : World) (d : Nat) : ∀ {fs : List Field} {L : List (TypeDesc × Nat)} {z : Bool}, plainF P fs = some L → fieldsEq L a b = some z → (Op.eqFields (d + 1) xs ys fs).run P w = .ok z w
  | [], L, z, hL, hz => by cases hL; cases hz; rfl
  | f :: r, L, z, hL, hz => by
    obtain ⟨de, l, rfl, hl, hn, hu, hd⟩ := plainF_cons hL
    unfold fieldsEq at hz
    split at hz
    · rename_i h1 h2
      have h1' : f.offset < a.len := by simpa [Nat.blt_eq] using h1
      have h2' : f.offset < b.len := by simpa [Nat.blt_eq] using h2
      have hxl : f.offset < xs.toList.length := by rw [VL.len ha]; exact h1'
      have hyl : f.offset < ys.toList.length := by rw [VL.len hb]; exact h2'
      have hx := VL.at ha (List.getElem?_eq_getElem hxl)
      have hy := VL.at hb (List.getElem?_eq_getElem hyl)
      have hgx : xs[f.offset]? = some (xs.toList[f.offset]'hxl) := by rw [← Array.getElem?_toList]; exact List.getElem?_eq_getElem hxl
      have hgy : ys[f.offset]? = some (ys.toList[f.offset]'hyl) := by rw [← Array.getElem?_toList]; exact List.getElem?_eq_getElem hyl
      generalize xs.toList[f.offset]'hxl = vx at hx hgx
      generalize ys.toList[f.offset]'hyl = vy at hy hgy
      have hagg : aggT P f.type = some false := by
        unfold aggT
        rw [hu]
        rcases hd with rfl | ⟨k, rfl⟩ | rfl <;> rfl
      have part : ∀ (cs : Array Value) v, cs[f.offset]? = some v → (Go.part f.type cs f.offset).run P w = .ok v w := by
        intro cs v hv
        obtain ⟨v', w', e1, e2, e3⟩ := runs_isAgg (P := P) (w := w) (Q := fun b w' => b = false ∧ w' = w) hagg ⟨rfl, rfl⟩
        subst e2 e3
        unfold Go.part
        simp [e1, hv]
      have hcell : ∀ z', cellEq de (a.at f.offset) (b.at f.offset) = some z' → (Op.equalIn (d + 1) f.type vx vy).run P w = .ok z' w := by
        intro z' hc
        generalize a.at f.offset = A at hx hc
        generalize b.at f.offset = B at hy hc
        unfold cellEq at hc
        split at hc
        · have e1 : vx = _ := hx
          have e2 : vy = _ := hy
          subst e1 e2
          cases hc
          exact run_equalIn_bool w d _ _ _ hu
        · split at hc
          · rename_i hkk
            subst hkk
            have e1 : vx = _ := hx
            have e2 : vy = _ := hy
            subst e1 e2
            cases hc
            rw [run_equalIn_int w d _ _ _ _ _ hu, eqI_eq]
          · cases hc
        · obtain ⟨e1, b1⟩ := hx
          obtain ⟨e2, b2⟩ := hy
          subst e1 e2
          cases hc
          rw [run_equalIn_string w d _ _ _ hu, eqL_bytes b1 b2]
        · cases hc
      have hnn : (f.name == "_") = false := by simpa using hn
      split at hz
      · rename_i hc
        have ih := fieldsEq_ok ha hb w d hl hz
        simp only [Op.eqFields, hn, ne_eq, not_false_eq_true, if_true, Sem.run_bind, part xs vx hgx, part ys vy hgy, Result.andThen_ok, hcell true hc, Bool.not_true, Bool.false_eq_true, if_false]
        exact ih
      · rename_i hc
        cases hz
        simp only [Op.eqFields, hn, ne_eq, not_false_eq_true, if_true, Sem.run_bind, part xs vx hgx, part ys vy hgy, Result.andThen_ok, hcell false hc, Bool.not_false, if_true]
        rfl
      · cases hz
    · cases hz
theorem binS_ok {op : BinOp} {t yt : TypeId} {x y : Operand} {fs : Array Field} {L : List (TypeDesc × Nat)} (ho : o.op = .binOp op t x y yt) (hu : P.underlying t = some (.struct fs)) (hs : P.stoodInHeld t = false) (hm : P.eqGuardType P.depth t = false) (hL : plainF P fs.toList = some L) :
    PureOk P G dt n ds o (fun e t0 hp k => ((opd G dt n ds x).run e t0).on_ag fun a => ((opd G dt n ds y).run e t0).on_ag fun b => match fieldsEq L a b, op with
      | some z, .eql => k (.b z) hp
      | some z, .neq => k (.b (!z)) hp
      | _, _ => none) :=
  .pure fun e t0 hp k r hr => by
    obtain ⟨a, ha, h1⟩ := AV.on_ag_some hr
    obtain ⟨b, hb, h2⟩ := AV.on_ag_some h1
    have hfs : P.fieldsOf t = fs := by unfold Program.fieldsOf; rw [hu]
    have key : ∀ φ (ac : Act) w z, OpsR G dt n ds φ e t0 ac.eval o.op → fieldsEq L a b = some z → ∃ xs ys, ac.eval x = .agg xs ∧ ac.eval y = .agg ys ∧ (Op.equalIn 10000 t (.agg xs) (.agg ys)).run P w = .ok z w := by
      intro φ ac w z hx hz
      have h1 := hx x (by rw [ho]; simp [Op.operands])
      have h2 := hx y (by rw [ho]; simp [Op.operands])
      rw [ha] at h1
      rw [hb] at h2
      obtain ⟨xs, e1, v1⟩ := h1
      obtain ⟨ys, e2, v2⟩ := h2
      refine ⟨xs, ys, e1, e2, ?_⟩
      rw [run_equalIn_struct w 9999 t xs ys (by rw [hfs]; exact hu) hs, hfs]
      exact fieldsEq_ok v1 v2 w 9998 hL hz
    split at h2
    · rename_i z ho hz
      refine ⟨_, h2, fun φ ac w hx => ?_⟩
      obtain ⟨xs, ys, e1, e2, e3⟩ := key φ ac w z hx hz
      refine ⟨.bool z, ?_, rfl⟩
      unfold execOp
      simp only [ho, e1, e2, Sem.run_bind, run_eqGuard_agg w _ t x y xs ys hm, Result.andThen_ok, run_eql_struct, e3]
      rfl
    · rename_i z ho hz
      refine ⟨_, h2, fun φ ac w hx => ?_⟩
      obtain ⟨xs, ys, e1, e2, e3⟩ := key φ ac w z hx hz
      refine ⟨.bool (!z), ?_, rfl⟩
      unfold execOp
      simp only [ho, e1, e2, Sem.run_bind, run_eqGuard_agg w _ t x y xs ys hm, Result.andThen_ok, run_neq_struct, e3]
      rfl
    · cases h2
end
end Go.Proofs.YtknjkljigmepjaaGreatDoor.Clo
end
section
namespace Go.Proofs.YtknjkljigmepjaaGreatDoor.Clo
open Go.RowKit
set_option linter.unusedVariables false
set_option linter.unusedSimpArgs false
set_option linter.constructorNameAsVariable false
variable [Tabs]
section
variable {P : Program} {G dt n : Nat} {ds : List (Option Nat)} {o : Oper}
theorem RW.shape {φ : Id → Option Plc} {h : Mem} {w : World} (hw : RW φ h w) {r : Id} {t : TypeId} {gr : Bool} {fz : Option Nat} {ro : Bool} {cells : AV} {g : Plc} (hr : h.get r = some (.row t gr fz ro cells)) (hg : φ r = some g) :
    ∃ K, w.shape? g.1 = some (t, K) ∧ g.2.2 + cells.len ≤ K ∧ (gr = false → K = cells.len ∧ g.2.2 = 0) := by
  obtain ⟨c, pre, l, rest, m, e1, e2, e3, e4, _, hb, _⟩ := hw.row hr hg
  refine ⟨c.size, by unfold World.shape?; rw [e1], ?_, fun hgr => ?_⟩
  · rw [← VL.len e3, ← Array.length_toList, e2, List.length_append, List.length_append]; omega
  · obtain ⟨h1, h2⟩ := e4 hgr
    subst h1 h2
    exact ⟨by rw [← VL.len e3, ← Array.length_toList, e2]; simp, hb.symm⟩
theorem toUnsafe_ok {s t te : TypeId} {x : Operand} {i : TypeInfo} (ho : o.op = .convert s t x) (hs : P.underlying s = some (.pointer te)) (ht : P.underlying t = some .unsafePointer) (hi : P.info? te = some i) (hz : i.size ≠ 0) :
    StillOk P G dt n ds o (fun e t0 hp k => ((opd G dt n ds x).run e t0).on_p fun r q => hp.on fun mem _ => onRow mem r fun _ _ _ _ cells => match Nat.blt q cells.len with
      | true => k (.p r q) hp
      | false => none) :=
  fun e t0 hp k r hr => by
    obtain ⟨b, q, hb, h1⟩ := AV.on_p_some hr
    cases hp with
    | mk m nx =>
    obtain ⟨t1, gr, fz, ro, cells, hm, h2⟩ := onRow_some (show onRow m b _ = some r from h1)
    split at h2
    · rename_i hq
      have hq' : q < cells.len := by simpa [Nat.blt_eq] using hq
      refine ⟨_, h2, fun φ a w _ hx hw => ?_⟩
      obtain ⟨g, hg, e1⟩ : ∃ g, φ b = some g ∧ a.eval x = .pointer (some ⟨g.1, g.2.2 + q, none⟩) := by have := hx x (by rw [ho]; simp [Op.operands]); rw [hb] at this; exact this
      obtain ⟨K, e2, e3, _⟩ := (show RW φ m w from hw).shape hm hg
      have hrun := Lib.run_to_unsafe (P := P) w ⟨g.1, g.2.2 + q, none⟩ hs ht hi hz e2 (by show g.2.2 + q < K; omega)
      refine ⟨.pointer (some ⟨g.1, g.2.2 + q, none⟩), ?_, g, hg, rfl⟩
      unfold execOp
      simp only [ho, e1, Sem.run_bind, hrun, Result.andThen_ok]
      rfl
    · cases h2
theorem fromUnsafe_ok {s t u : TypeId} {x : Operand} {i : TypeInfo} (ho : o.op = .convert s t x) (hs : P.underlying s = some .unsafePointer) (ht : P.underlying t = some (.pointer u)) (hi : P.info? u = some i) :
    StillOk P G dt n ds o (fun e t0 hp k => ((opd G dt n ds x).run e t0).on_p fun r q => hp.on fun mem _ => onRow mem r fun t1 gr _ _ cells => match gr, liesAt P P.depth t1 (cells.len / P.cellsOf t1) q u 1 with
      | false, true => k (.p r q) hp
      | _, _ => none) :=
  fun e t0 hp k r hr => by
    obtain ⟨b, q, hb, h1⟩ := AV.on_p_some hr
    cases hp with
    | mk m nx =>
    obtain ⟨t1, gr, fz, ro, cells, hm, h2⟩ := onRow_some (show onRow m b _ = some r from h1)
    split at h2
    · rename_i hl
      refine ⟨_, h2, fun φ a w _ hx hw => ?_⟩
      obtain ⟨g, hg, e1⟩ : ∃ g, φ b = some g ∧ a.eval x = .pointer (some ⟨g.1, g.2.2 + q, none⟩) := by have := hx x (by rw [ho]; simp [Op.operands]); rw [hb] at this; exact this
      obtain ⟨K, e2, e3, e4⟩ := (show RW φ m w from hw).shape hm hg
      obtain ⟨e5, e6⟩ := e4 rfl
      subst e5
      have hrun := Lib.run_from_unsafe (P := P) w ⟨g.1, g.2.2 + q, none⟩ hs ht hi e2 (by show liesAt P P.depth t1 (cells.len / P.cellsOf t1) (g.2.2 + q) u 1 = true; rw [e6, Nat.zero_add]; exact hl)
      refine ⟨.pointer (some ⟨g.1, g.2.2 + q, none⟩), ?_, g, hg, rfl⟩
      unfold execOp
      simp only [ho, e1, Sem.run_bind, hrun, Result.andThen_ok]
      rfl
    · cases h2
noncomputable def dataF (a : AV) (k : AV → R) : R := match a with
  | .sn => k .pn
  | .sl r q m _ => match Nat.beq m 0 with
    | true => none
    | false => k (.p r q)
  | .sg r q m _ => match Nat.beq m 0 with
    | true => none
    | false => k (.p r q)
  | _ => none
theorem sliceData_ok {t : TypeId} {x : Operand} (ho : o.op = .call { callee := .builtin .unsafeSliceData, args := #[x], argTypes := #[t] }) :
    PureOk P G dt n ds o (fun e t0 hp k => dataF ((opd G dt n ds x).run e t0) fun v => k v hp) :=
  .pure fun e t0 hp k r hr => by
    have fin : ∀ (v : AV) (v' : (Id → Option Plc) → Act → World → Value), k v hp = some r → (∀ φ (a : Act) (w : World), OpsR G dt n ds φ e t0 a.eval o.op → (Builtin.unsafeSliceData_ #[t] o.type #[a.eval x]).run P w = .ok (v' φ a w) w ∧ VR φ v (v' φ a w)) → ∃ v, k v hp = some r ∧ ∀ φ (a : Act) w, OpsR G dt n ds φ e t0 a.eval o.op → ∃ v', (execOp a.eval o).run P w = .ok (.value v') w ∧ VR φ v v' := by
      intro v v' hk hall
      refine ⟨v, hk, fun φ a w hx => ?_⟩
      obtain ⟨h1, h2⟩ := hall φ a w hx
      refine ⟨_, ?_, h2⟩
      unfold execOp
      simp only [ho, resolve, invoke, builtin, Sem.run_bind, Sem.run_pure, Result.andThen_ok, List.map_toArray, List.map_cons, List.map_nil, h1]
    have h1 : dataF ((opd G dt n ds x).run e t0) (fun v => k v hp) = some r := hr
    unfold dataF at h1
    split at h1
    · rename_i hs
      refine fin .pn (fun _ _ _ => .pointer none) h1 fun φ a w hx => ?_
      have e1 : a.eval x = .slice none 0 0 := by have := hx x (by rw [ho]; simp [Op.operands, Call.operands]); rw [hs] at this; exact this
      rw [e1]
      exact ⟨Lib.run_unsafeSliceData_nil (P := P) w #[t] o.type 0 0, rfl⟩
    · rename_i b q m c hs
      split at h1
      · cases h1
      rename_i hm
      have hm' : m ≠ 0 := fun e => by subst e; cases hm
      refine fin (.p b q) (fun φ a w => .pointer ((φ b).map fun g => ⟨g.1, g.2.2 + q, none⟩)) h1 fun φ a w hx => ?_
      obtain ⟨g, c', hg, e1, hle, _⟩ : ∃ g k, φ b = some g ∧ a.eval x = .slice (some ⟨g.1, g.2.2 + q, none⟩) m k ∧ m ≤ k ∧ (∀ z, c = some z → k = z) := by have := hx x (by rw [ho]; simp [Op.operands, Call.operands]); rw [hs] at this; exact this
      rw [e1]
      simp only [hg, Option.map_some]
      exact ⟨Lib.run_unsafeSliceData_row (P := P) w #[t] o.type _ m c' (by omega), g, hg, rfl⟩
    · rename_i b q m z hs
      split at h1
      · cases h1
      rename_i hm
      have hm' : m ≠ 0 := fun e => by subst e; cases hm
      refine fin (.p b q) (fun φ a w => .pointer ((φ b).map fun g => ⟨g.1, g.2.2 + q, none⟩)) h1 fun φ a w hx => ?_
      obtain ⟨g, c', hg, e1, hle, _⟩ : ∃ g k, φ b = some g ∧ a.eval x = .slice (some ⟨g.1, g.2.2 + q, none⟩) m k ∧ m ≤ k ∧ g.2.2 + q + k * z = g.2.1 := by have := hx x (by rw [ho]; simp [Op.operands, Call.operands]); rw [hs] at this; exact this
      rw [e1]
      simp only [hg, Option.map_some]
      exact ⟨Lib.run_unsafeSliceData_row (P := P) w #[t] o.type _ m c' (by omega), g, hg, rfl⟩
    · cases h1
theorem liesAt_at {e : TypeId} (hc : P.cellsOf e = 1) (count off n : Nat) (hn : off + n ≤ count) : liesAt P P.depth e count off e n = true := by
  have hd : P.depth = (2 * (P.types.size + Made.depth) + 1) + 1 := rfl
  rw [hd]
  simp only [liesAt, Bool.or_eq_true]
  left
  rw [hd]
  simp [rowAt, hc, hn, sameLayout, Nat.mod_one]
theorem run_unsafeString_at (w : World) (pt it ty e : TypeId) (hp : P.underlying pt = some (.pointer e)) (hc : P.cellsOf e = 1) (g b cells : Nat) (hsh : w.shape? g = some (e, cells)) (l : List UInt8) (h0 : l ≠ []) (hn : b + l.length ≤ cells) (h63 : l.length ≤ 9223372036854775807)
    (hcell : ∀ j x, l[j]? = some x → w.cell? ((⟨g, b, none⟩ : Addr).add j) = some (.int .u8 x.toNat)) :
    (Builtin.unsafeString_ #[pt, it] ty #[.pointer (some ⟨g, b, none⟩), .int .i64 l.length]).run P w = .ok (.string ⟨l.toArray⟩) (w.freeze ⟨g, b, none⟩ l.length) := by
  have hl : l.length ≠ 0 := by simpa using h0
  have hlb := Lib.run_loadBytes (P := P) w l ⟨g, b, none⟩ .empty hcell
  have hlies := liesAt_at (P := P) hc (cells / P.cellsOf e) b l.length (by rw [hc]; simpa using hn)
  have h63' : ¬ (9223372036854775807 : Int) < (l.length : Int) := by omega
  have hdef : Builtin.unsafeString_ #[pt, it] ty #[.pointer (some ⟨g, b, none⟩), .int .i64 l.length] =
      (do
        let n ← asInt (.int .i64 l.length)
        if n < 0 then runtimePanic (.error "unsafe.String: len out of range")
        if n > IntKind.i64.max then unsupported (.unsafePointer "String: a length above the largest int")
        if n = 0 then Pure.pure (.string .empty)
        else if ← variablesAt ⟨g, b, none⟩ (← elemOf pt) n.toNat then do
          let s ← loadBytes ⟨g, b, none⟩ .empty n.toNat
          freeze ⟨g, b, none⟩ n.toNat
          Pure.pure (.string s)
        else unsupported (.unsafePointer "String: not so many bytes at ptr")) := rfl
  rw [hdef]
  have hmax : IntKind.i64.max = 9223372036854775807 := rfl
  have hneg : ¬ (l.length : Int) < 0 := by omega
  simp [asInt, asIntOf, hmax, h63', hneg, hl, variablesAt, hsh, elemOf, run_underlying hp, hlies, hlb]
noncomputable def ustrF (e : TypeId) (a : AV) (m : Nat) (hp : HP) (k : KV) : R := match Nat.beq m 0 with
  | true => match a with
    | .p _ _ => k (.s []) hp
    | .pn => k (.s []) hp
    | _ => none
  | false => a.on_p fun r q => match Nat.beq q 0 with
    | false => none
    | true => hp.on fun mem nx => onRow mem r fun t gr fz ro cells => match ro, Nat.beq t e, Nat.ble m 9223372036854775807 with
      | false, true, true => bytesK m cells fun ns => k (.s ns) (.mk (mem.set r (.row t gr none false cells)) nx)
      | _, _, _ => none
theorem unsafeString_ok {pt it e : TypeId} {x y : Operand} (ho : o.op = .call { callee := .builtin .unsafeString, args := #[x, y], argTypes := #[pt, it] }) (hp' : P.underlying pt = some (.pointer e)) (hc : P.cellsOf e = 1) :
    ValOk P G dt n ds o (fun E t0 hp k => match (opd G dt n ds y).run E t0 with
      | .i .i64 j => onNat j fun m => ustrF e ((opd G dt n ds x).run E t0) m hp k
      | _ => none) := by
  intro E t0 hp k r hr
  have wrap : ∀ (a : Act) (w w' : World) (v' : Value), (Builtin.unsafeString_ #[pt, it] o.type #[a.eval x, a.eval y]).run P w = .ok v' w' → (execOp a.eval o).run P w = .ok (.value v') w' := by
    intro a w w' v' h
    unfold execOp
    simp only [ho, resolve, invoke, builtin, Sem.run_bind, Sem.run_pure, Result.andThen_ok, List.map_toArray, List.map_cons, List.map_nil, h]
  have hr0 : (match (generalizing := false) (opd G dt n ds y).run E t0 with
      | .i .i64 j => onNat j fun m => ustrF e ((opd G dt n ds x).run E t0) m hp k
      | _ => none : R) = some r := hr
  split at hr0
  · rename_i j hy
    obtain ⟨m, rfl, h1⟩ := onNat_some hr0
    have hy' : ∀ φ (a : Act), OpsR G dt n ds φ E t0 a.eval o.op → a.eval y = .int .i64 (m : Int) := fun φ a hx => by
      have := hx y (by rw [ho]; simp [Op.operands, Call.operands])
      rw [hy] at this
      exact this
    unfold ustrF at h1
    split at h1
    · rename_i hm
      have hm' : m = 0 := Nat.eq_of_beq_eq_true hm
      subst hm'
      have zero : k (.s []) hp = some r → (∀ φ (a : Act), OpsR G dt n ds φ E t0 a.eval o.op → ∃ p, a.eval x = .pointer p) → ∃ v hp', k v hp' = some r ∧ ∀ {sts : List Site} φ (B : Bse sts) (a : Act) w, Glo G φ → OpsR G dt n ds φ E t0 a.eval o.op → WH φ B hp w →
          ∃ ψ v' w', ((execOp a.eval o).run P w = .ok (.value v') w' ∨ ((execOp a.eval o).run P w = .ok .skip w' ∧ v' = undef)) ∧ VR ψ v v' ∧ StH φ hp w ψ hp' w' ∧ WH ψ B hp' w' := by
        intro hk hpt
        refine ⟨_, _, hk, fun φ B a w _ hx hw => ?_⟩
        obtain ⟨p, e1⟩ := hpt φ a hx
        refine ⟨φ, .string .empty, w, .inl (wrap a w w _ ?_), ⟨rfl, fun _ h => by cases h⟩, Step.refl, hw⟩
        rw [e1, hy' φ a hx]
        exact Lib.run_unsafeString_none (P := P) w pt it o.type p
      split at h1
      · rename_i q i hs
        exact zero h1 fun φ a hx => by
          have := hx x (by rw [ho]; simp [Op.operands, Call.operands])
          rw [hs] at this
          obtain ⟨g, _, e1⟩ := this
          exact ⟨_, e1⟩
      · rename_i hs
        exact zero h1 fun φ a hx => by
          have := hx x (by rw [ho]; simp [Op.operands, Call.operands])
          rw [hs] at this
          exact ⟨_, this⟩
      · cases h1
    · rename_i hm
      have hm' : m ≠ 0 := fun e => by subst e; cases hm
      obtain ⟨b, q, hb, h2⟩ := AV.on_p_some h1
      split at h2
      · cases h2
      rename_i hq
      have hq' : q = 0 := Nat.eq_of_beq_eq_true hq
      subst hq'
      cases hp with
      | mk mem nx =>
      obtain ⟨t1, gr, fz, ro, cells, hme, h3⟩ := onRow_some (show onRow mem b _ = some r from h2)
      split at h3
      · rename_i hte h63
        have hte' : t1 = e := Nat.eq_of_beq_eq_true hte
        subst hte'
        have h63' : m ≤ 9223372036854775807 := Nat.le_of_ble_eq_true h63
        obtain ⟨ns, h4, h5, h6, h7⟩ := bytesK_some m h3
        refine ⟨_, _, h4, fun φ B a w _ hx hw => ?_⟩
        have hw' : WR φ B mem nx w := hw
        obtain ⟨g, hg, e1⟩ : ∃ g, φ b = some g ∧ a.eval x = .pointer (some ⟨g.1, g.2.2, none⟩) := by have := hx x (by rw [ho]; simp [Op.operands, Call.operands]); rw [hb] at this; exact this
        obtain ⟨c, pre, l, rest, mk, c1, c2, c3, c4, c5, hb9, _⟩ := hw'.rw.row hme hg
        have c7 := h7 φ l c3
        have hlen : m ≤ l.length := by
          have := congrArg List.length c7
          rw [List.length_take, List.length_map, h5] at this
          omega
        have hcell : ∀ j z, (ns.map UInt8.ofNat)[j]? = some z → w.cell? ((⟨g.1, g.2.2, none⟩ : Addr).add j) = some (.int .u8 z.toNat) := by
          intro j z hz
          rw [List.getElem?_map] at hz
          obtain ⟨b', hb', hz'⟩ := Option.map_eq_some_iff.1 hz
          have hjm : j < m := by rw [← h5]; exact (List.getElem?_eq_some_iff.1 hb').1
          have hlj : l[j]? = some (.int .u8 (b' : Int)) := by
            have h8 := congrArg (fun l => l[j]?) c7
            simp only [List.getElem?_take, List.getElem?_map, hb', Option.map_some] at h8
            rw [if_pos hjm] at h8
            exact h8
          rw [add_lit, cell_row c1 c2 hb9 hlj, ← hz']
          have := h6 b' (List.mem_of_getElem? hb')
          simp [UInt8.toNat_ofNat', Nat.mod_eq_of_lt this]
        have hsh : w.shape? g.1 = some (t1, c.size) := by unfold World.shape?; rw [c1]
        have hnl : (ns.map UInt8.ofNat).length = m := by rw [List.length_map, h5]
        have hrun := run_unsafeString_at (P := P) w pt it o.type t1 hp' hc g.1 g.2.2 c.size hsh (ns.map UInt8.ofNat) (fun h => hm' (by rw [← hnl, h]; rfl)) (by rw [hnl, ← Array.length_toList, c2, List.length_append, List.length_append]; omega) (by rw [hnl]; exact h63') hcell
        rw [hnl] at hrun
        have hgs := hw'.lt b g hg
        have hat : (w.freeze ⟨g.1, g.2.2, none⟩ m).heap[g.1]? = some (.cells c t1 (if mk.1 == mk.2 then (g.2.2, g.2.2 + m) else (min mk.1 g.2.2, max mk.2 (g.2.2 + m)))) := by
          simp only [World.freeze, hm', if_false, Array.getElem?_modify, if_pos, c1, Option.map_some]
        obtain ⟨s1, s2⟩ := hw'.put (w' := w.freeze ⟨g.1, g.2.2, none⟩ m) (y := .row t1 gr none false cells) (o := .cells c t1 (if mk.1 == mk.2 then (g.2.2, g.2.2 + m) else (min mk.1 g.2.2, max mk.2 (g.2.2 + m)))) hme rfl rfl hg
          (by simp [World.freeze, hm']) (by simp [World.freeze, hm']) (by simp [World.freeze, hm']) (by simp [World.freeze, hm'])
          (fun k hk => by simp [World.freeze, hm', Array.getElem?_modify, Ne.symm hk]) hat ⟨c, pre, l, rest, _, rfl, c2, c3, c4, c5, hb9, trivial⟩
        refine ⟨φ, .string ⟨(ns.map UInt8.ofNat).toArray⟩, _, .inl (wrap a w _ _ ?_), ⟨rfl, h6⟩, s2, s1⟩
        rw [e1, hy' φ a hx]
        exact hrun
      · cases h3
  · cases hr0
end
end Go.Proofs.YtknjkljigmepjaaGreatDoor.Clo
end
section
namespace Go.Proofs.YtknjkljigmepjaaGreatDoor.Clo
open Go.RowKit
set_option linter.unusedVariables false
set_option linter.unusedSimpArgs false
set_option linter.constructorNameAsVariable false
variable [Tabs]
inductive PI where | run (i : Nat) | chk (i : Nat)
def Kd.same : Kd → Kd → Bool
  | .pure, .pure | .still, .still | .make, .make | .eff, .eff => true
  | _, _ => false
theorem Kd.same_eq {a b : Kd} (h : a.same b = true) : a = b := by cases a <;> cases b <;> first | rfl | cases h
def gslot (ops : Array Oper) (o : Oper) : Option Nat := match o.guard with
  | none => none
  | some (j, _) => (ops[j]?).bind (·.dst)
def slotOf : Operand → Option Nat
  | .tmp t => some t
  | _ => none
def reads (ops : Array Oper) (o : Oper) : List Nat := (gslot ops o).toList ++ o.op.operands.toList.filterMap slotOf
def edgeMask (acc : List Nat) : List Edge → Nat
  | [] => 0
  | e :: r => match Region.binds .any e with
    | true => Nat.lor (Nat.lor (Nat.shiftLeft 1 e.on) (acc.getD e.on 0)) (edgeMask acc r)
    | false => edgeMask acc r
def masks : List Oper → List Nat → List Nat
  | [], acc => acc
  | o :: r, acc => masks r (acc ++ [edgeMask acc o.after.toList])
theorem edgeMask_bit {acc : List Nat} : ∀ {es : List Edge} {j : Nat}, (edgeMask acc es).testBit j = true → ∃ e ∈ es, Region.binds .any e = true ∧ (e.on = j ∨ (acc.getD e.on 0).testBit j = true)
  | [], j, h => by simp [edgeMask] at h
  | e :: r, j, h => by
    unfold edgeMask at h
    split at h
    · rename_i hb
      have h' : (((1 <<< e.on) ||| acc.getD e.on 0) ||| edgeMask acc r).testBit j = true := h
      rw [Nat.testBit_or, Nat.testBit_or, Bool.or_eq_true, Bool.or_eq_true] at h'
      rcases h' with (h' | h') | h'
      · rw [Nat.testBit_shiftLeft, Bool.and_eq_true, decide_eq_true_eq] at h'
        have h2 := h'.2
        rw [show (1 : Nat) = 2 ^ 0 from rfl, Nat.testBit_two_pow, decide_eq_true_eq] at h2
        exact ⟨e, by simp, hb, .inl (by omega)⟩
      · exact ⟨e, by simp, hb, .inr h'⟩
      · obtain ⟨e', he, h1⟩ := edgeMask_bit h'
        exact ⟨e', by simp [he], h1⟩
    · obtain ⟨e', he, h1⟩ := edgeMask_bit h
      exact ⟨e', by simp [he], h1⟩
def Closed (ops : Array Oper) (S : Nat → Prop) : Prop := ∀ i o, ops[i]? = some o → S i → ∀ e ∈ o.after, Region.binds .any e = true → S e.on
theorem masks_ok {ops : Array Oper} : ∀ (l pre : List Oper) (acc : List Nat), ops.toList = pre ++ l → acc.length = pre.length →
    (∀ i j, (acc.getD i 0).testBit j = true → ∀ S, Closed ops S → S i → S j) → ∀ i j, ((masks l acc).getD i 0).testBit j = true → ∀ S, Closed ops S → S i → S j
  | [], pre, acc, _, _, h => h
  | o :: l, pre, acc, e, hl, h => by
    refine masks_ok l (pre ++ [o]) _ (by rw [e]; simp) (by simp [hl]) fun i j hb S hS hi => ?_
    by_cases h1 : i < acc.length
    · rw [show (acc ++ [edgeMask acc o.after.toList]).getD i 0 = acc.getD i 0 by simp [List.getD, List.getElem?_append_left h1]] at hb
      exact h i j hb S hS hi
    · by_cases h2 : i = acc.length
      · subst h2
        have : ((acc ++ [edgeMask acc o.after.toList]).getD acc.length 0) = edgeMask acc o.after.toList := by simp [List.getD]
        rw [this] at hb
        obtain ⟨e', he, hbi, hc⟩ := edgeMask_bit hb
        have ho : ops[acc.length]? = some o := by rw [← Array.getElem?_toList, e, hl]; simp
        have hs := hS _ o ho hi e' (Array.mem_toList_iff.1 he) hbi
        rcases hc with rfl | hc
        · exact hs
        · exact h _ _ hc S hS hs
      · rw [show (acc ++ [edgeMask acc o.after.toList]).getD i 0 = 0 by simp [List.getD, List.getElem?_eq_none (show (acc ++ [edgeMask acc o.after.toList]).length ≤ i by simp; omega)]] at hb
        simp at hb
theorem anc_ok {ops : Array Oper} {i j : Nat} (h : ((masks ops.toList []).getD i 0).testBit j = true) {S : Nat → Prop} (hS : Closed ops S) (hi : S i) : S j :=
  masks_ok ops.toList [] [] rfl rfl (fun i j h => by simp at h) i j h S hS hi
def bitOf (i : Nat) : Nat := Nat.shiftLeft 1 i
theorem bit_or {D i j : Nat} : (Nat.lor D (bitOf i)).testBit j = true ↔ D.testBit j = true ∨ j = i := by
  show ((D ||| (1 <<< i)).testBit j = true) ↔ _
  rw [Nat.testBit_or, Bool.or_eq_true, Nat.testBit_shiftLeft, Bool.and_eq_true, decide_eq_true_eq, show (1 : Nat) = 2 ^ 0 from rfl, Nat.testBit_two_pow, decide_eq_true_eq]
  constructor
  · rintro (h | ⟨h1, h2⟩)
    · exact .inl h
    · exact .inr (by omega)
  · rintro (h | rfl)
    · exact .inl h
    · exact .inr ⟨Nat.le_refl _, by omega⟩
def subB (a b : Nat) : Bool := Nat.beq (Nat.land a b) a
theorem subB_ok {a b j : Nat} (h : subB a b = true) (hj : a.testBit j = true) : b.testBit j = true := by
  have e : a &&& b = a := Nat.eq_of_beq_eq_true h
  rw [← e, Nat.testBit_and, Bool.and_eq_true] at hj
  exact hj.2
section
variable (ops : Array Oper) (ms : List Nat) (kindM : Oper → Kd)
def dstsOf : List (Option Nat) := ops.toList.map (·.dst)
def slotB (i D d : Nat) : List (Option Nat) → Nat → Bool
  | [], _ => true
  | x :: r, j => (match x with
    | none => true
    | some d' => match Nat.beq d' d with
      | false => true
      | true => Nat.beq j i || (ms.getD i 0).testBit j || ((ms.getD j 0).testBit i && !D.testBit j)) && slotB i D d r (j + 1)
def slotsB (i D : Nat) (rd : List Nat) : Bool := rd.all fun d => slotB ms i D d (dstsOf ops) 0
def isStill : Kd → Bool
  | .still => true
  | _ => false
def due (i D : Nat) : List Oper → Nat → List Nat
  | [], _ => []
  | o :: r, j => match D.testBit j, isStill (kindM o), (ms.getD i 0).testBit j with
    | true, true, false => j :: due i D r (j + 1)
    | _, _, _ => due i D r (j + 1)
def isEff : Kd → Bool
  | .eff => true
  | _ => false
def planB : List PI → Nat → Nat → List Nat → Bool
  | [], D, _, [] => (List.range ops.size).all fun j => D.testBit j
  | [], _, _, _ :: _ => false
  | .run i :: r, D, E, [] => match ops[i]? with
    | none => false
    | some o => !D.testBit i && subB (ms.getD i 0) D && subB E (ms.getD i 0) && slotsB ops ms i D (reads ops o) &&
      (match isEff (kindM o) with
      | true => planB r (Nat.lor D (bitOf i)) (Nat.lor E (bitOf i)) (due ms kindM i D ops.toList 0)
      | false => planB r (Nat.lor D (bitOf i)) E [])
  | .run _ :: _, _, _, _ :: _ => false
  | .chk _ :: _, _, _, [] => false
  | .chk i :: r, D, E, c :: C => match ops[i]? with
    | none => false
    | some o => Nat.beq i c && slotsB ops ms i D (reads ops o) && (match o.dst with | none => false | some d => !(reads ops o).contains d) && planB r D E C
def onceB : List (Option Nat) → Bool
  | [] => true
  | none :: r => onceB r
  | some d :: r => !r.contains (some d) && onceB r
def backB : List Oper → Nat → Bool
  | [], _ => true
  | o :: r, i => (o.after.toList.all fun e => !Region.binds .any e || Nat.blt e.on i) && backB r (i + 1)
def findR (D : Nat) (eff : Bool) : List Oper → Nat → Option Nat
  | [], _ => none
  | o :: r, j => match D.testBit j, subB (ms.getD j 0) D, isEff (kindM o) == eff with
    | false, true, true => some j
    | _, _, _ => findR D eff r (j + 1)
def mkPlan : Nat → Nat → List PI
  | 0, _ => []
  | f + 1, D => match findR ms kindM D false ops.toList 0 with
    | some i => .run i :: mkPlan f (Nat.lor D (bitOf i))
    | none => match findR ms kindM D true ops.toList 0 with
      | some i => .run i :: ((due ms kindM i D ops.toList 0).map PI.chk ++ mkPlan f (Nat.lor D (bitOf i)))
      | none => []
end
section
variable {ops : Array Oper} {ms : List Nat} {kindM : Oper → Kd}
theorem slotB_ok {i D d : Nat} : ∀ {l : List (Option Nat)} {j0 : Nat}, slotB ms i D d l j0 = true → ∀ j, l[j]? = some (some d) → j0 + j = i ∨ (ms.getD i 0).testBit (j0 + j) = true ∨ ((ms.getD (j0 + j) 0).testBit i = true ∧ D.testBit (j0 + j) = false)
  | [], j0, _, j, h => by simp at h
  | x :: r, j0, h, 0, hj => by
    simp at hj
    subst hj
    unfold slotB at h
    simp only [Nat.beq_refl, Bool.and_eq_true, Bool.or_eq_true, Bool.not_eq_true'] at h
    rcases h.1 with (h1 | h1) | h1
    · exact .inl (Nat.eq_of_beq_eq_true h1)
    · exact .inr (.inl h1)
    · exact .inr (.inr h1)
  | x :: r, j0, h, j + 1, hj => by
    unfold slotB at h
    rw [Bool.and_eq_true] at h
    have := slotB_ok h.2 j (by simpa using hj)
    rw [show j0 + (j + 1) = j0 + 1 + j by omega]
    exact this
theorem slotsB_ok {i D : Nat} {rd : List Nat} (h : slotsB ops ms i D rd = true) {d : Nat} (hd : d ∈ rd) {j : Nat} {p : Oper} (hj : ops[j]? = some p) (hp : p.dst = some d) :
    j = i ∨ (ms.getD i 0).testBit j = true ∨ ((ms.getD j 0).testBit i = true ∧ D.testBit j = false) := by
  have h1 := List.all_eq_true.1 h d hd
  have := slotB_ok h1 j (by unfold dstsOf; rw [List.getElem?_map, Array.getElem?_toList, hj]; simp [hp])
  simpa using this
theorem due_ok {i D : Nat} : ∀ {l : List Oper} {j0 j : Nat} {o : Oper}, l[j]? = some o → D.testBit (j0 + j) = true → kindM o = .still → (ms.getD i 0).testBit (j0 + j) = false → (j0 + j) ∈ due ms kindM i D l j0
  | [], j0, j, o, h, _, _, _ => by simp at h
  | x :: r, j0, 0, o, h, h1, h2, h3 => by
    simp at h
    subst h
    unfold due
    simp only [Nat.add_zero] at h1 h3
    rw [h1, h2, h3]
    simp [isStill]
  | x :: r, j0, j + 1, o, h, h1, h2, h3 => by
    rw [show j0 + (j + 1) = j0 + 1 + j by omega] at h1 h3 ⊢
    have := due_ok (j0 := j0 + 1) (by simpa using h) h1 h2 h3
    unfold due
    split
    · exact List.mem_cons_of_mem _ this
    · exact this
theorem onceB_ok : ∀ {l : List (Option Nat)}, onceB l = true → ∀ {i j d : Nat}, l[i]? = some (some d) → l[j]? = some (some d) → i = j
  | [], _, i, j, d, h, _ => by simp at h
  | none :: r, h, i, j, d, hi, hj => by
    cases i with
    | zero => simp at hi
    | succ i => cases j with
      | zero => simp at hj
      | succ j => exact congrArg (· + 1) (onceB_ok (show onceB r = true from h) (by simpa using hi) (by simpa using hj))
  | some x :: r, h, i, j, d, hi, hj => by
    have h' : (!r.contains (some x) && onceB r) = true := h
    rw [Bool.and_eq_true] at h'
    have no : ∀ k, r[k]? = some (some x) → False := fun k hk => by
      have hm := List.mem_of_getElem? hk
      have := h'.1
      simp [hm] at this
    cases i with
    | zero =>
      simp at hi
      subst hi
      cases j with
      | zero => rfl
      | succ j => exact (no j (by simpa using hj)).elim
    | succ i => cases j with
      | zero => simp at hj; subst hj; exact (no i (by simpa using hi)).elim
      | succ j => exact congrArg (· + 1) (onceB_ok h'.2 (by simpa using hi) (by simpa using hj))
theorem once_ok (h : onceB (dstsOf ops) = true) {i j d : Nat} {o p : Oper} (hi : ops[i]? = some o) (hj : ops[j]? = some p) (ho : o.dst = some d) (hp : p.dst = some d) : i = j :=
  onceB_ok h (d := d) (by unfold dstsOf; rw [List.getElem?_map, Array.getElem?_toList, hi]; simp [ho]) (by unfold dstsOf; rw [List.getElem?_map, Array.getElem?_toList, hj]; simp [hp])
theorem backB_ok : ∀ {l : List Oper} {j0 : Nat}, backB l j0 = true → ∀ {j : Nat} {o : Oper}, l[j]? = some o → ∀ e ∈ o.after, Region.binds .any e = true → e.on < j0 + j
  | [], j0, _, j, o, h, _, _, _ => by simp at h
  | x :: r, j0, h, 0, o, hj, e, he, hb => by
    simp at hj
    subst hj
    unfold backB at h
    rw [Bool.and_eq_true] at h
    have := List.all_eq_true.1 h.1 e (Array.mem_toList_iff.2 he)
    rw [hb] at this
    simpa [Nat.blt_eq] using this
  | x :: r, j0, h, j + 1, o, hj, e, he, hb => by
    unfold backB at h
    rw [Bool.and_eq_true] at h
    have := backB_ok h.2 (j := j) (by simpa using hj) e he hb
    omega
theorem back_ok (h : backB ops.toList 0 = true) {j : Nat} {o : Oper} (hj : ops[j]? = some o) {e : Edge} (he : e ∈ o.after) (hb : Region.binds .any e = true) : e.on < j := by
  have := backB_ok h (j := j) (by rw [Array.getElem?_toList]; exact hj) e he hb
  omega
theorem planB_later : ∀ {pl : List PI} {D E : Nat} {C : List Nat}, planB ops ms kindM pl D E C = true → ∀ {i : Nat}, i < ops.size → D.testBit i = false → ∀ j, E.testBit j = true → (ms.getD i 0).testBit j = true
  | [], D, E, [], h, i, hi, hD, j, _ => by
    have := List.all_eq_true.1 (show ((List.range ops.size).all fun j => D.testBit j) = true from h) i (List.mem_range.2 hi)
    rw [hD] at this
    cases this
  | [], D, E, _ :: _, h, i, hi, hD, j, _ => by cases h
  | .run k :: r, D, E, [], h, i, hi, hD, j, hj => by
    unfold planB at h
    split at h
    · cases h
    · rename_i o ho
      simp only [Bool.and_eq_true] at h
      obtain ⟨⟨⟨⟨h1, h2⟩, h3⟩, h4⟩, h5⟩ := h
      by_cases hik : i = k
      · subst hik; exact subB_ok h3 hj
      · have hD' : (Nat.lor D (bitOf k)).testBit i = false := by
          rw [Bool.eq_false_iff]
          intro hc
          rcases bit_or.1 hc with hc | hc
          · rw [hD] at hc; cases hc
          · exact hik hc
        split at h5
        · exact planB_later h5 hi hD' j (bit_or.2 (.inl hj))
        · exact planB_later h5 hi hD' j hj
  | .run _ :: _, D, E, _ :: _, h, i, hi, hD, j, _ => by cases h
  | .chk _ :: _, D, E, [], h, i, hi, hD, j, _ => by cases h
  | .chk k :: r, D, E, c :: C, h, i, hi, hD, j, hj => by
    unfold planB at h
    split at h
    · cases h
    · simp only [Bool.and_eq_true] at h
      exact planB_later h.2 hi hD j hj
end
end Go.Proofs.YtknjkljigmepjaaGreatDoor.Clo
end
section
namespace Go.Proofs.YtknjkljigmepjaaGreatDoor.Clo
open Go.RowKit
set_option linter.unusedVariables false
set_option linter.unusedSimpArgs false
set_option linter.constructorNameAsVariable false
variable [Tabs]
def eqA : AV → AV → Bool
  | .u, .u => true
  | .nil, .nil => true
  | .inil, .inil => true
  | .fnil, .fnil => true
  | .mn, .mn => true
  | .sn, .sn => true
  | .pn, .pn => true
  | .cons a b, .cons c d => eqA a c && eqA b d
  | .ifc t x, .ifc t' y => Nat.beq t t' && eqA x y
  | .fn (.func f) a b, .fn (.func g) c d => Nat.beq f g && (eqA a c && eqA b d)
  | .tu l, .tu m => eqA l m
  | .ag l, .ag m => eqA l m
  | .sl r o n none, .sl r' o' n' none => listEqId r r' && (Nat.beq o o' && Nat.beq n n')
  | .sl r o n (some c), .sl r' o' n' (some c') => listEqId r r' && (Nat.beq o o' && (Nat.beq n n' && Nat.beq c c'))
  | .sg r o n z, .sg r' o' n' z' => listEqId r r' && (Nat.beq o o' && (Nat.beq n n' && Nat.beq z z'))
  | .p r o, .p r' o' => listEqId r r' && Nat.beq o o'
  | .mp r, .mp r' => listEqId r r'
  | .s l, .s m => listEqN l m
  | .b x, .b y => x == y
  | .i k n, .i k' n' => decide (k = k') && eqI n n'
  | .se r o z, .se r' o' z' => listEqId r r' && (Nat.beq o o' && Nat.beq z z')
  | .ch r, .ch r' => listEqId r r'
  | _, _ => false
where
  listEqId : Id → Id → Bool
    | [], [] => true
    | x :: a, y :: b => decide (x = y) && listEqId a b
    | _, _ => false
  listEqN : List Nat → List Nat → Bool
    | [], [] => true
    | x :: a, y :: b => Nat.beq x y && listEqN a b
    | _, _ => false
theorem listEqId_eq : ∀ {a b : Id}, eqA.listEqId a b = true → a = b
  | [], [], _ => rfl
  | [], _ :: _, h => by cases h
  | _ :: _, [], h => by cases h
  | x :: a, y :: b, h => by
    simp only [eqA.listEqId, Bool.and_eq_true, decide_eq_true_eq] at h
    rw [h.1, listEqId_eq h.2]
theorem listEqN_eq : ∀ {a b : List Nat}, eqA.listEqN a b = true → a = b
  | [], [], _ => rfl
  | [], _ :: _, h => by cases h
  | _ :: _, [], h => by cases h
  | x :: a, y :: b, h => by
    simp only [eqA.listEqN, Bool.and_eq_true] at h
    rw [Nat.eq_of_beq_eq_true h.1, listEqN_eq h.2]
theorem eqA_eq {a b : AV} (h : eqA a b = true) : a = b := by
  fun_induction eqA a b with
  | case1 | case2 | case3 | case4 | case5 | case6 | case7 => rfl
  | case8 a b c d ih1 ih2 => rw [Bool.and_eq_true] at h; rw [ih1 h.1, ih2 h.2]
  | case9 t x t' y ih => rw [Bool.and_eq_true] at h; rw [Nat.eq_of_beq_eq_true h.1, ih h.2]
  | case10 f a b g c d ih1 ih2 => rw [Bool.and_eq_true, Bool.and_eq_true] at h; rw [Nat.eq_of_beq_eq_true h.1, ih1 h.2.1, ih2 h.2.2]
  | case11 l m ih => rw [ih h]
  | case12 l m ih => rw [ih h]
  | case13 => simp only [Bool.and_eq_true] at h; rw [listEqId_eq h.1, Nat.eq_of_beq_eq_true h.2.1, Nat.eq_of_beq_eq_true h.2.2]
  | case14 => simp only [Bool.and_eq_true] at h; rw [listEqId_eq h.1, Nat.eq_of_beq_eq_true h.2.1, Nat.eq_of_beq_eq_true h.2.2.1, Nat.eq_of_beq_eq_true h.2.2.2]
  | case15 => simp only [Bool.and_eq_true] at h; rw [listEqId_eq h.1, Nat.eq_of_beq_eq_true h.2.1, Nat.eq_of_beq_eq_true h.2.2.1, Nat.eq_of_beq_eq_true h.2.2.2]
  | case16 => simp only [Bool.and_eq_true] at h; rw [listEqId_eq h.1, Nat.eq_of_beq_eq_true h.2]
  | case17 => rw [listEqId_eq h]
  | case18 => rw [listEqN_eq h]
  | case19 => rw [beq_iff_eq] at h; rw [h]
  | case20 => rw [Bool.and_eq_true, decide_eq_true_eq, eqI_eq, beq_iff_eq] at h; rw [h.1, h.2]
  | case21 => simp only [Bool.and_eq_true] at h; rw [listEqId_eq h.1, Nat.eq_of_beq_eq_true h.2.1, Nat.eq_of_beq_eq_true h.2.2]
  | case22 => rw [listEqId_eq h]
  | case23 => cases h
end Go.Proofs.YtknjkljigmepjaaGreatDoor.Clo
end
section
namespace Go.Proofs.YtknjkljigmepjaaGreatDoor.Clo
open Go.RowKit
set_option linter.unusedVariables false
set_option linter.unusedSimpArgs false
set_option linter.constructorNameAsVariable false
variable [Tabs]
section
variable (P : Program) (G dt n : Nat) (lo : Nat → Bool) (opM : OpM) (ops : Array Oper) (ms : List Nat) (kindM : Oper → Kd)
noncomputable def wipe : List Oper → Tr → Tr
  | [], t => t
  | o :: r, t => wipe r (match o.dst with
    | none => t
    | some d => if lo d then t else if d < n then t.set (path dt d) .u else t)
noncomputable def planM : List PI → List (Option Nat) → RM
  | [], _ => .mk fun _ _ t hp k => k .normal t hp
  | .run i :: r, ds => match ops[i]? with
    | none => .mk fun _ _ _ _ _ => none
    | some o => match opM ds o with
      | none => .mk fun _ _ _ _ _ => none
      | some (kd, m) => match kd.same (kindM o) with
        | false => .mk fun _ _ _ _ _ => none
        | true =>
          let m := wantedM G dt n ds ops o m
          let q := planM r (o.dst :: ds)
          match o.dst with
          | none => .mk fun hd e t hp k => m.run hd e t hp (fun v hp => q.run hd (v :: e) t hp k) fun v hp => k (.pan v) (wipe dt n lo ops.toList t) hp
          | some d => if d < n then (if lo d then .mk fun hd e t hp k => m.run hd e t hp (fun v hp => q.run hd (v :: e) t hp k) fun v hp => k (.pan v) (wipe dt n lo ops.toList t) hp
              else let p := path dt d; .mk fun hd e t hp k => m.run hd e t hp (fun v hp => q.run hd (v :: e) (t.set p v) hp k) fun v hp => k (.pan v) (wipe dt n lo ops.toList t) hp)
            else .mk fun _ _ _ _ _ => none
  | .chk i :: r, ds => match ops[i]? with
    | none => .mk fun _ _ _ _ _ => none
    | some o => match opM ds o, o.dst with
      | some (kd, m), some d => match kd.same .still, idx d ds with
        | true, some j =>
          let m := wantedM G dt n ds ops o m
          let q := planM r ds
          .mk fun hd e t hp k => m.run hd e t hp (fun v _ => Bool.rec none (q.run hd e t hp k) (eqA v (envAt j e))) fun _ _ => none
        | _, _ => .mk fun _ _ _ _ _ => none
      | _, _ => .mk fun _ _ _ _ _ => none
def RdA (A : Operand → AV) (φ : Id → Option Plc) (a : Act) (o : Oper) : Prop :=
  (∀ x ∈ o.op.operands, VR φ (A x) (a.eval x)) ∧ ∀ d, gslot ops o = some d → VR φ (A (.tmp d)) (a.eval (.tmp d))
def Wtd (o : Oper) (a : Act) : Prop := Region.wanted o (yielded ops a.tmps) = true
def NotW (o : Oper) (A : Operand → AV) (v : AV) : Prop := v = undefA ∧ ∀ φ (a : Act), RdA ops A φ a o → ¬ Wtd ops o a
def FactP (o : Oper) (A : Operand → AV) (v : AV) : Prop := NotW ops o A v ∨ ∀ φ (a : Act) w, RdA ops A φ a o → Wtd ops o a ∧ ∃ v', (execOp a.eval o).run P w = .ok (.value v') w ∧ VR φ v v'
def FactS (o : Oper) (A : Operand → AV) (v : AV) (hp : HP) : Prop := NotW ops o A v ∨ ∀ φ (a : Act) w, Glo G φ → RdA ops A φ a o → RH φ hp w → Wtd ops o a ∧ ∃ v', (execOp a.eval o).run P w = .ok (.value v') w ∧ VR φ v v'
def MakeAt (o : Oper) (A : Operand → AV) (v : AV) (r : Id) (x : Blk) : Prop := ∀ φ (a : Act) w, Glo G φ → RdA ops A φ a o → Wtd ops o a ∧ ∃ v' ob K w', (execOp a.eval o).run P w = .ok (.value v') w' ∧ NewW w ob w' ∧ x.says φ K ob ∧ ∀ ψ, More φ ψ → ψ r = some (w.heap.size, K) → VR ψ v v'
def FactM (o : Oper) (A : Operand → AV) (v : AV) (hp hp' : HP) (r : Option Id) : Prop :=
  (NotW ops o A v ∧ hp' = hp ∧ r = none) ∨ ∃ m nx x, hp = .mk m nx ∧ last nx = false ∧ x.ro = false ∧ hp' = .mk (m.set nx x) (inc nx) ∧ r = some nx ∧ MakeAt P G ops o A v nx x
def FactE (yy : Ys) (o : Oper) (A : Operand → AV) (v : AV) (hp hp' : HP) : Prop := ∀ φ (B : Bse yy.s) a w, Glo G φ → RdA ops A φ a o → WH φ B hp w → ∀ (K : Act → World → Prop) Q,
  (∀ v' w', Aft φ B hp w v hp' v' w' → K (a.put o.dst v') w') → if Region.wanted o (yielded ops a.tmps) = true then OW yy.on P o a w K Q else K (a.put o.dst undef) w
def FactX (yy : Ys) (o : Oper) (A : Operand → AV) (v : AV) (hp hp' : HP) : Prop := ∀ φ (B : Bse yy.s) a w, Glo G φ → RdA ops A φ a o → WH φ B hp w → ∀ (K : Act → World → Prop) Q,
  (∀ v' w', Aft φ B hp w v hp' v' w' → Q (.panic (one v')) a w') → if Region.wanted o (yielded ops a.tmps) = true then OW yy.on P o a w K Q else K (a.put o.dst undef) w
def Wr (i d : Nat) : Option Nat := (List.range ops.size).find? fun j => (ms.getD i 0).testBit j && ((ops[j]?).bind (·.dst)) == some d
noncomputable def Ax (val : Nat → AV) (t0 : Tr) (i : Nat) : Operand → AV
  | .tmp d => match Wr ops ms i d with
    | some j => val j
    | none => if d < n then getT (path dt d) t0 else .u
  | x => (opd G dt n [] x).run [] t0
def upd (val : Nat → AV) (i : Nat) (v : AV) : Nat → AV := fun j => if j = i then v else val j
noncomputable def putT (t : Tr) (d : Option Nat) (v : AV) : Tr := match d with
  | none => t
  | some d => if lo d then t else t.set (path dt d) v
def Trace (yy : Ys) (t0 : Tr) : List PI → (Nat → AV) → (Nat → Option Id) → Tr → HP → Ex → Tr → HP → Prop
  | [], val, rid, t, hp, x, t', hp' => x = .normal ∧ t' = t ∧ hp' = hp
  | .run i :: r, val, rid, t, hp, x, t', hp' => ∃ o, ops[i]? = some o ∧ (∀ d, o.dst = some d → d < n) ∧ match kindM o with
    | .pure => ∃ v, FactP P ops o (Ax G dt n ops ms val t0 i) v ∧ Trace yy t0 r (upd val i v) rid (putT dt lo t o.dst v) hp x t' hp'
    | .still => ∃ v, FactS P G ops o (Ax G dt n ops ms val t0 i) v hp ∧ Trace yy t0 r (upd val i v) rid (putT dt lo t o.dst v) hp x t' hp'
    | .make => ∃ v hp1 r0, FactM P G ops o (Ax G dt n ops ms val t0 i) v hp hp1 r0 ∧ Trace yy t0 r (upd val i v) (fun j => if j = i then r0 else rid j) (putT dt lo t o.dst v) hp1 x t' hp'
    | .eff => (∃ v hp1, FactE P G ops yy o (Ax G dt n ops ms val t0 i) v hp hp1 ∧ Trace yy t0 r (upd val i v) rid (putT dt lo t o.dst v) hp1 x t' hp') ∨
      (∃ v hp1, FactX P G ops yy o (Ax G dt n ops ms val t0 i) v hp hp1 ∧ x = .pan v ∧ t' = wipe dt n lo ops.toList t ∧ hp' = hp1)
  | .chk i :: r, val, rid, t, hp, x, t', hp' => ∃ o, ops[i]? = some o ∧ FactS P G ops o (Ax G dt n ops ms val t0 i) (val i) hp ∧ Trace yy t0 r val rid t hp x t' hp'
end
section
variable {P : Program} {G dt n : Nat} {lo : Nat → Bool} {opM : OpM} {ops : Array Oper} {ms : List Nat} {kindM : Oper → Kd} {t0 : Tr}
theorem wtd_of {o : Oper} {a : Act} {φ : Id → Option Plc} {A : Operand → AV} (hr : RdA ops A φ a o) {j : Nat} {w : Bool} (hg : o.guard = some (j, w)) {d : Nat} (hj : (ops[j]?).bind (·.dst) = some d) : VR φ (A (.tmp d)) (a.tmps.getD d undef) :=
  hr.2 d (by unfold gslot; rw [hg]; exact hj)
theorem wantedM_cases {ds : List (Option Nat)} {o : Oper} {m : OM} {hd : Hd} {e : Env} {t : Tr} {hp : HP} {k : KV} {kp : KP} {r : AV × HP} {A : Operand → AV} (hA : ∀ d, gslot ops o = some d → (opd G dt n ds (.tmp d)).run e t = A (.tmp d))
    (hr : (wantedM G dt n ds ops o m).run hd e t hp k kp = some r) :
    (m.run hd e t hp k kp = some r ∧ ∀ φ (a : Act), RdA ops A φ a o → Wtd ops o a) ∨ (k undefA hp = some r ∧ ∀ φ (a : Act), RdA ops A φ a o → ¬ Wtd ops o a) := by
  unfold wantedM at hr
  cases hg : o.guard with
  | none =>
    simp only [hg] at hr
    exact .inl ⟨hr, fun φ a _ => by simp [Wtd, Region.wanted, hg]⟩
  | some jw =>
    obtain ⟨j, w⟩ := jw
    simp only [hg] at hr
    cases hj : (ops[j]?).bind (·.dst) with
    | none => simp only [hj] at hr; cases hr
    | some d =>
      simp only [hj] at hr
      have hA' := hA d (by unfold gslot; rw [hg]; exact hj)
      have hw := fun a : Act => wanted_of hg hj a
      have go : (((opd G dt n ds (.tmp d)).run e t = .b w ∧ m.run hd e t hp k kp = some r) ∨ (((∃ l, (opd G dt n ds (.tmp d)).run e t = .tu l) ∨ (opd G dt n ds (.tmp d)).run e t = .b (!w)) ∧ k undefA hp = some r)) →
          (m.run hd e t hp k kp = some r ∧ ∀ φ (a : Act), RdA ops A φ a o → Wtd ops o a) ∨ (k undefA hp = some r ∧ ∀ φ (a : Act), RdA ops A φ a o → ¬ Wtd ops o a) := by
        intro hc
        rcases hc with ⟨h1, h2⟩ | ⟨h1, h2⟩
        · refine .inl ⟨h2, fun φ a hra => ?_⟩
          have hv := wtd_of hra hg hj
          rw [← hA', h1] at hv
          have hv' : a.tmps.getD d undef = .bool w := hv
          unfold Wtd
          rw [hw a, hv']; simp
        · refine .inr ⟨h2, fun φ a hra => ?_⟩
          have hv := wtd_of hra hg hj
          unfold Wtd
          rw [hw a]
          rcases h1 with ⟨l, h1⟩ | h1
          · rw [← hA', h1] at hv
            obtain ⟨xs, hv', _⟩ := hv
            have hv'' : a.tmps.getD d undef = .tuple xs := hv'
            rw [hv'']
            simp
          · rw [← hA', h1] at hv
            have hv'' : a.tmps.getD d undef = .bool (!w) := hv
            rw [hv'']
            cases w <;> simp
      cases w with
      | true => exact go (guardB_some hr)
      | false => exact go (guardN_some hr)
structure EnvInv (dt n : Nat) (lo : Nat → Bool) (ops : Array Oper) (t0 : Tr) (ds : List (Option Nat)) (e : Env) (t : Tr) (val : Nat → AV) (D : Nat) : Prop where
  e1 : ∀ d j', idx d ds = some j' → ∃ j o, ops[j]? = some o ∧ o.dst = some d ∧ D.testBit j = true ∧ envAt j' e = val j
  e2 : ∀ j o d, ops[j]? = some o → D.testBit j = true → o.dst = some d → idx d ds ≠ none
  e3 : ∀ d, d < n → idx d ds = none → getT (path dt d) t = getT (path dt d) t0
theorem wr_some {i d j : Nat} (h : Wr ops ms i d = some j) : (ms.getD i 0).testBit j = true ∧ ∃ o, ops[j]? = some o ∧ o.dst = some d := by
  have := List.find?_some h
  simp only [Bool.and_eq_true, beq_iff_eq] at this
  obtain ⟨o, ho, hd⟩ := Option.bind_eq_some_iff.1 this.2
  exact ⟨this.1, o, ho, hd⟩
theorem wr_none {i d : Nat} (h : Wr ops ms i d = none) {j : Nat} {o : Oper} (hj : ops[j]? = some o) (hm : (ms.getD i 0).testBit j = true) : o.dst ≠ some d := by
  have hlt : j < ops.size := (Array.getElem?_eq_some_iff.1 hj).1
  have := List.find?_eq_none.1 h j (List.mem_range.2 hlt)
  simp only [Bool.and_eq_true, beq_iff_eq, not_and] at this
  intro hd
  exact this hm (by simp [hj, hd])
theorem evalA (hon : onceB (dstsOf ops) = true) {ds : List (Option Nat)} {e : Env} {t : Tr} {val : Nat → AV} {D i : Nat} {o : Oper} (hi : EnvInv dt n lo ops t0 ds e t val D) (ho : ops[i]? = some o) (hsub : subB (ms.getD i 0) D = true)
    (hsl : slotsB ops ms i D (reads ops o) = true) (hself : D.testBit i = false ∨ ∀ d, o.dst = some d → d ∉ reads ops o) :
    (∀ x ∈ o.op.operands, (opd G dt n ds x).run e t = Ax G dt n ops ms val t0 i x) ∧ ∀ d, gslot ops o = some d → (opd G dt n ds (.tmp d)).run e t = Ax G dt n ops ms val t0 i (.tmp d) := by
  have tmp : ∀ d ∈ reads ops o, (opd G dt n ds (.tmp d)).run e t = Ax G dt n ops ms val t0 i (.tmp d) := by
    intro d hd
    cases hx : idx d ds with
    | some j' =>
      have h1 : opd G dt n ds (.tmp d) = .mk fun e _ => envAt j' e := by simp only [opd, hx]
      rw [h1]
      obtain ⟨j, p, hj, hp, hD, hv⟩ := hi.e1 d j' hx
      show envAt j' e = _
      rw [hv]
      rcases slotsB_ok hsl hd hj hp with h | h | ⟨_, h⟩
      · subst h
        rw [ho] at hj
        cases hj
        rcases hself with h | h
        · rw [hD] at h; cases h
        · exact absurd hd (h d hp)
      · have hw : Wr ops ms i d = some j := by
          cases hwr : Wr ops ms i d with
          | none => exact absurd hp (wr_none hwr hj h)
          | some j2 =>
            obtain ⟨_, o2, ho2, hd2⟩ := wr_some hwr
            rw [once_ok hon hj ho2 hp hd2]
        simp only [Ax, hw]
      · rw [hD] at h; cases h
    | none =>
      have hw : Wr ops ms i d = none := by
        cases hwr : Wr ops ms i d with
        | none => rfl
        | some j2 =>
          obtain ⟨hm, o2, ho2, hd2⟩ := wr_some hwr
          exact absurd hx (hi.e2 j2 o2 d ho2 (subB_ok hsub hm) hd2)
      simp only [Ax, hw]
      by_cases hdn : d < n
      · have h1 : opd G dt n ds (.tmp d) = .mk fun _ t => getT (path dt d) t := by simp only [opd, hx, hdn, if_true]
        rw [h1, if_pos hdn]
        exact hi.e3 d hdn hx
      · have h1 : opd G dt n ds (.tmp d) = .mk fun _ _ => .u := by simp only [opd, hx, hdn, if_false]
        rw [h1, if_neg hdn]
        rfl
  refine ⟨fun x hx => ?_, fun d hd => tmp d (by simp [reads, hd])⟩
  cases x with
  | tmp d => exact tmp d (by simp only [reads, List.mem_append, List.mem_filterMap]; exact .inr ⟨_, Array.mem_toList_iff.2 hx, rfl⟩)
  | const v => rfl
  | func f => rfl
  | _ =>
    rename_i g
    simp only [Ax, opd]; split <;> rfl
theorem rdA_ops {A : Operand → AV} {φ : Id → Option Plc} {a : Act} {o : Oper} {ds : List (Option Nat)} {e : Env} {t : Tr} (hA : ∀ x ∈ o.op.operands, (opd G dt n ds x).run e t = A x) (h : RdA ops A φ a o) : OpsR G dt n ds φ e t a.eval o.op := fun x hx => by rw [hA x hx]; exact h.1 x hx
theorem EnvInv.run {ds : List (Option Nat)} {e : Env} {t : Tr} {val : Nat → AV} {D i : Nat} {o : Oper} {v : AV} (hn : n ≤ 4 ^ dt) (hi : EnvInv dt n lo ops t0 ds e t val D) (ho : ops[i]? = some o) (hD : D.testBit i = false) (hd : ∀ d, o.dst = some d → d < n) :
    EnvInv dt n lo ops t0 (o.dst :: ds) (v :: e) (putT dt lo t o.dst v) (upd val i v) (Nat.lor D (bitOf i)) := by
  refine ⟨fun d j' h => ?_, fun j p d hj hb hp => ?_, fun d hdn h => ?_⟩
  · unfold idx at h
    split at h
    · rename_i hdst
      cases h
      exact ⟨i, o, ho, hdst, bit_or.2 (.inr rfl), by simp only [upd, if_true]; rfl⟩
    · obtain ⟨j1, hj1, rfl⟩ := Option.map_eq_some_iff.1 h
      obtain ⟨j, p, h1, h2, h3, h4⟩ := hi.e1 d j1 hj1
      have hne : j ≠ i := fun e => by subst e; rw [hD] at h3; cases h3
      exact ⟨j, p, h1, h2, bit_or.2 (.inl h3), by simp only [upd, hne, if_false]; exact h4⟩
  · unfold idx
    split
    · simp
    · rename_i hne
      rcases bit_or.1 hb with hb | rfl
      · have := hi.e2 j p d hj hb hp
        cases hx : idx d ds with
        | none => exact absurd hx this
        | some _ => simp
      · rw [ho] at hj
        cases hj
        exact absurd hp hne
  · unfold idx at h
    split at h
    · cases h
    · rename_i hne
      have h' : idx d ds = none := by
        cases hx : idx d ds with
        | none => rfl
        | some _ => rw [hx] at h; cases h
      rw [← hi.e3 d hdn h']
      cases hds : o.dst with
      | none => rfl
      | some d' =>
        have hdd : d ≠ d' := fun e => hne (by rw [hds, e])
        show getT (path dt d) (if lo d' then t else t.set (path dt d') v) = getT (path dt d) t
        split
        · rfl
        · have hp : path dt d ≠ path dt d' := fun e => hdd (path_inj dt d d' (Nat.lt_of_lt_of_le hdn hn) (Nat.lt_of_lt_of_le (hd d' hds) hn) e)
          rw [getT_get, T4.get_set_other _ _ _ _ (by rw [path_len, path_len]) hp, ← getT_get]
theorem trace_of (hn : n ≤ 4 ^ dt) (hon : onceB (dstsOf ops) = true) (hop : ∀ ds o q, opM ds o = some q → OmOk P G dt n ds o q) {hd : Hd} (hok : HdOk P G hd) : ∀ (pl : List PI) (ds : List (Option Nat)) (e : Env) (t : Tr) (hp : HP) (val : Nat → AV) (rid : Nat → Option Id) (D E : Nat) (C : List Nat) (k : KC) (r : AV × HP),
    planB ops ms kindM pl D E C = true → EnvInv dt n lo ops t0 ds e t val D → (∀ c ∈ C, D.testBit c = true ∧ subB (ms.getD c 0) D = true) → (∀ i, D.testBit i = true → subB (ms.getD i 0) D = true) → (planM G dt n lo opM ops kindM pl ds).run hd e t hp k = some r →
    ∃ x t' hp', k x t' hp' = some r ∧ Trace P G dt n lo ops ms kindM hd.y t0 pl val rid t hp x t' hp'
  | [], ds, e, t, hp, val, rid, D, E, C, k, r, hpl, hi, hC, hDs, hr => ⟨.normal, t, hp, hr, rfl, rfl, rfl⟩
  | .run i :: pl, ds, e, t, hp, val, rid, D, E, _ :: _, k, r, hpl, hi, hC, hDs, hr => by cases hpl
  | .chk i :: pl, ds, e, t, hp, val, rid, D, E, [], k, r, hpl, hi, hC, hDs, hr => by cases hpl
  | .run i :: pl, ds, e, t, hp, val, rid, D, E, [], k, r, hpl, hi, hC, hDs, hr => by
    unfold planB at hpl
    unfold planM at hr
    cases ho : ops[i]? with
    | none => simp only [ho] at hr; cases hr
    | some o =>
    simp only [ho] at hr hpl
    cases hom : opM ds o with
    | none => simp only [hom] at hr; cases hr
    | some km =>
    obtain ⟨kd, m⟩ := km
    simp only [hom] at hr
    split at hr
    · cases hr
    rename_i hkd
    have hkd' := Kd.same_eq hkd
    simp only [Bool.and_eq_true, Bool.not_eq_true'] at hpl
    obtain ⟨⟨⟨⟨h1, h2⟩, h3⟩, h4⟩, h5⟩ := hpl
    obtain ⟨hA, hAg⟩ := evalA (G := G) hon hi ho h2 h4 (.inl h1)
    have hm := hop ds o _ hom
    have main : ∀ (t2 : AV → Tr), (∀ d, o.dst = some d → d < n) → (∀ v, t2 v = putT dt lo t o.dst v) →
        (wantedM G dt n ds ops o m).run hd e t hp (fun v hp => (planM G dt n lo opM ops kindM pl (o.dst :: ds)).run hd (v :: e) (t2 v) hp k) (fun v hp => k (.pan v) (wipe dt n lo ops.toList t) hp) = some r →
        ∃ x t' hp', k x t' hp' = some r ∧ Trace P G dt n lo ops ms kindM hd.y t0 (.run i :: pl) val rid t hp x t' hp' := by
      intro t2 hdl ht2 hrun
      have hDs' : ∀ j, (Nat.lor D (bitOf i)).testBit j = true → subB (ms.getD j 0) (Nat.lor D (bitOf i)) = true := by
        intro j hj
        have mono : ∀ a, subB a D = true → subB a (Nat.lor D (bitOf i)) = true := by
          intro a ha
          have e : a &&& (D ||| bitOf i) = a := by
           apply Nat.eq_of_testBit_eq
           intro q
           rw [Nat.testBit_and, Nat.testBit_or]
           cases hq : a.testBit q with
           | false => rfl
           | true => rw [subB_ok ha hq]; rfl
          show Nat.beq (a &&& (D ||| bitOf i)) a = true
          rw [e, Nat.beq_refl]
        rcases bit_or.1 hj with hj | rfl
        · exact mono _ (hDs j hj)
        · exact mono _ h2
      have next : ∀ v hp1 rid', (∀ E' C', (planB ops ms kindM pl (Nat.lor D (bitOf i)) E' C' = true → (∀ c ∈ C', (Nat.lor D (bitOf i)).testBit c = true) → (planM G dt n lo opM ops kindM pl (o.dst :: ds)).run hd (v :: e) (t2 v) hp1 k = some r →
          ∃ x t' hp', k x t' hp' = some r ∧ Trace P G dt n lo ops ms kindM hd.y t0 pl (upd val i v) rid' (putT dt lo t o.dst v) hp1 x t' hp')) := by
        intro v hp1 rid' E' C' hpb hC' hrn
        rw [ht2 v] at hrn
        exact trace_of hn hon hop hok pl _ _ _ hp1 (upd val i v) rid' _ E' C' k r hpb (EnvInv.run hn hi ho h1 hdl) (fun c hc => ⟨hC' c hc, hDs' c (hC' c hc)⟩) hDs' hrn
      have dueC : ∀ c ∈ due ms kindM i D ops.toList 0, (Nat.lor D (bitOf i)).testBit c = true := by
        have : ∀ (l : List Oper) (j0 : Nat), ∀ c ∈ due ms kindM i D l j0, D.testBit c = true := by
          intro l
          induction l with
          | nil => intro j0 c hc; cases hc
          | cons o l ih =>
            intro j0 c hc
            unfold due at hc
            split at hc
            · rename_i hb _ _
              rcases List.mem_cons.1 hc with rfl | hc
              · exact hb
              · exact ih _ c hc
            · exact ih _ c hc
        exact fun c hc => bit_or.2 (.inl (this _ _ c hc))
      cases kd with
      | pure =>
        obtain ⟨F, hF, hok1⟩ := hm
        have hm' : m = .mk (fun _ e t hp k _ => F e t hp k) := hF
        have hb : planB ops ms kindM pl (Nat.lor D (bitOf i)) E [] = true := by rw [← hkd'] at h5; exact h5
        rcases wantedM_cases hAg hrun with ⟨h6, h7⟩ | ⟨h6, h7⟩
        · rw [hm'] at h6
          obtain ⟨v, h8, h9⟩ := hok1 e t hp _ r h6
          obtain ⟨x, t', hp', k1, k2⟩ := next v hp rid E [] hb (fun _ h => by cases h) h8
          refine ⟨x, t', hp', k1, o, ho, hdl, ?_⟩
          rw [← hkd']
          exact ⟨v, .inr fun φ a w hra => ⟨h7 φ a hra, h9 φ a w (rdA_ops hA hra)⟩, k2⟩
        · obtain ⟨x, t', hp', k1, k2⟩ := next undefA hp rid E [] hb (fun _ h => by cases h) h6
          refine ⟨x, t', hp', k1, o, ho, hdl, ?_⟩
          rw [← hkd']
          exact ⟨undefA, .inl ⟨rfl, h7⟩, k2⟩
      | still =>
        obtain ⟨F, hF, hok1⟩ := hm
        have hm' : m = .mk (fun _ e t hp k _ => F e t hp k) := hF
        have hb : planB ops ms kindM pl (Nat.lor D (bitOf i)) E [] = true := by rw [← hkd'] at h5; exact h5
        rcases wantedM_cases hAg hrun with ⟨h6, h7⟩ | ⟨h6, h7⟩
        · rw [hm'] at h6
          obtain ⟨v, h8, h9⟩ := hok1 e t hp _ r h6
          obtain ⟨x, t', hp', k1, k2⟩ := next v hp rid E [] hb (fun _ h => by cases h) h8
          refine ⟨x, t', hp', k1, o, ho, hdl, ?_⟩
          rw [← hkd']
          exact ⟨v, .inr fun φ a w g1 hra g3 => ⟨h7 φ a hra, h9 φ a w g1 (rdA_ops hA hra) g3⟩, k2⟩
        · obtain ⟨x, t', hp', k1, k2⟩ := next undefA hp rid E [] hb (fun _ h => by cases h) h6
          refine ⟨x, t', hp', k1, o, ho, hdl, ?_⟩
          rw [← hkd']
          exact ⟨undefA, .inl ⟨rfl, h7⟩, k2⟩
      | make =>
        obtain ⟨F, hF, hok1⟩ := hm
        have hm' : m = .mk (fun _ e t hp k _ => F e t hp k) := hF
        have hb : planB ops ms kindM pl (Nat.lor D (bitOf i)) E [] = true := by rw [← hkd'] at h5; exact h5
        rcases wantedM_cases hAg hrun with ⟨h6, h7⟩ | ⟨h6, h7⟩
        · rw [hm'] at h6
          obtain ⟨mm, nx, v, x0, e1, e2, e3, h8, h9⟩ := hok1 e t hp _ r h6
          obtain ⟨x, t', hp', k1, k2⟩ := next v _ (fun j => if j = i then some nx else rid j) E [] hb (fun _ h => by cases h) h8
          refine ⟨x, t', hp', k1, o, ho, hdl, ?_⟩
          rw [← hkd']
          exact ⟨v, _, some nx, .inr ⟨mm, nx, x0, e1, e2, e3, rfl, rfl, fun φ a w g1 hra => ⟨h7 φ a hra, h9 φ a w g1 (rdA_ops hA hra)⟩⟩, k2⟩
        · obtain ⟨x, t', hp', k1, k2⟩ := next undefA hp (fun j => if j = i then none else rid j) E [] hb (fun _ h => by cases h) h6
          refine ⟨x, t', hp', k1, o, ho, hdl, ?_⟩
          rw [← hkd']
          exact ⟨undefA, hp, none, .inl ⟨⟨rfl, h7⟩, rfl, rfl⟩, k2⟩
      | eff =>
        have hb : planB ops ms kindM pl (Nat.lor D (bitOf i)) (Nat.lor E (bitOf i)) (due ms kindM i D ops.toList 0) = true := by rw [← hkd'] at h5; exact h5
        rcases wantedM_cases hAg hrun with ⟨h6, h7⟩ | ⟨h6, h7⟩
        · rcases (show OpOk P G dt n ds o m from hm) hd hok e t hp _ _ r h6 with ⟨v, hp1, h8, h9⟩ | ⟨v, hp1, h8, h9⟩
          · obtain ⟨x, t', hp', k1, k2⟩ := next v hp1 rid _ _ hb dueC h8
            refine ⟨x, t', hp', k1, o, ho, hdl, ?_⟩
            rw [← hkd']
            exact .inl ⟨v, hp1, fun φ B a w g1 hra g3 K Q hK => by rw [if_pos (show Region.wanted o (yielded ops a.tmps) = true from h7 φ a hra)]; exact h9 φ B a w g1 (rdA_ops hA hra) g3 K Q hK, k2⟩
          · refine ⟨.pan v, _, hp1, h8, o, ho, hdl, ?_⟩
            rw [← hkd']
            exact .inr ⟨v, hp1, fun φ B a w g1 hra g3 K Q hK => by rw [if_pos (show Region.wanted o (yielded ops a.tmps) = true from h7 φ a hra)]; exact h9 φ B a w g1 (rdA_ops hA hra) g3 K Q hK, rfl, rfl, rfl⟩
        · obtain ⟨x, t', hp', k1, k2⟩ := next undefA hp rid _ _ hb dueC h6
          refine ⟨x, t', hp', k1, o, ho, hdl, ?_⟩
          rw [← hkd']
          exact .inl ⟨undefA, hp, fun φ B a w g1 hra g3 K Q hK => by rw [if_neg (show ¬ (Region.wanted o (yielded ops a.tmps) = true) from h7 φ a hra)]; exact hK undef w ⟨φ, undefA_ok φ, Step.refl, g3⟩, k2⟩
    cases hds : o.dst with
    | none =>
      simp only [hds] at hr
      exact main (fun _ => t) (fun d e => by rw [hds] at e; cases e) (fun v => by rw [hds]; rfl) (by rw [hds]; exact hr)
    | some d =>
      simp only [hds] at hr
      by_cases hdn : d < n
      · simp only [hdn, if_true] at hr
        by_cases hl : lo d = true
        · simp only [hl, if_true] at hr
          exact main (fun _ => t) (fun d' e => by rw [hds] at e; cases e; exact hdn) (fun v => by rw [hds]; simp [putT, hl]) (by rw [hds]; exact hr)
        · simp only [hl, if_false, Bool.false_eq_true] at hr
          exact main (fun v => t.set (path dt d) v) (fun d' e => by rw [hds] at e; cases e; exact hdn) (fun v => by rw [hds]; simp [putT, hl]) (by rw [hds]; exact hr)
      · simp only [hdn, if_false] at hr
        cases hr
  | .chk i :: pl, ds, e, t, hp, val, rid, D, E, c :: C, k, r, hpl, hi, hC, hDs, hr => by
    unfold planB at hpl
    unfold planM at hr
    cases ho : ops[i]? with
    | none => simp only [ho] at hr; cases hr
    | some o =>
    simp only [ho] at hr hpl
    split at hr
    · rename_i kd m d hom hds
      split at hr
      · rename_i j hkd hj
        have hkd' := Kd.same_eq hkd
        subst hkd'
        simp only [Bool.and_eq_true, hds, Bool.not_eq_true'] at hpl
        obtain ⟨⟨⟨h1, h2⟩, h3⟩, h4⟩ := hpl
        have h1' : i = c := Nat.eq_of_beq_eq_true h1
        subst h1'
        obtain ⟨hDi, hsub⟩ := hC i (by simp)
        have hnr : ∀ d', o.dst = some d' → d' ∉ reads ops o := fun d' e hm => by rw [hds] at e; cases e; simp [hm] at h3
        obtain ⟨hA, hAg⟩ := evalA (G := G) hon hi ho hsub h2 (.inr hnr)
        obtain ⟨F, hF, hok1⟩ := hop ds o _ hom
        have hm' : m = .mk (fun _ e t hp k _ => F e t hp k) := hF
        have hval : envAt j e = val i := by
          obtain ⟨j2, o2, e1, e2, e3, e4⟩ := hi.e1 d j hj
          rw [once_ok hon e1 ho e2 hds] at e4
          exact e4
        have fin : ∀ v, (Bool.rec none ((planM G dt n lo opM ops kindM pl ds).run hd e t hp k) (eqA v (envAt j e)) : R) = some r → v = val i ∧ (planM G dt n lo opM ops kindM pl ds).run hd e t hp k = some r := by
          intro v h
          cases hq : eqA v (envAt j e) with
          | false => rw [hq] at h; cases h
          | true => rw [hq] at h; exact ⟨(eqA_eq hq).trans hval, h⟩
        have go : ∀ v, (Bool.rec none ((planM G dt n lo opM ops kindM pl ds).run hd e t hp k) (eqA v (envAt j e)) : R) = some r → FactS P G ops o (Ax G dt n ops ms val t0 i) v hp →
            ∃ x t' hp', k x t' hp' = some r ∧ Trace P G dt n lo ops ms kindM hd.y t0 (.chk i :: pl) val rid t hp x t' hp' := by
          intro v h hf
          obtain ⟨hv, h6⟩ := fin v h
          subst hv
          obtain ⟨x, t', hp', k1, k2⟩ := trace_of hn hon hop hok pl ds e t hp val rid D E C k r h4 hi (fun c hc => hC c (by simp [hc])) hDs h6
          exact ⟨x, t', hp', k1, o, ho, hf, k2⟩
        rcases wantedM_cases hAg hr with ⟨h6, h7⟩ | ⟨h6, h7⟩
        · rw [hm'] at h6
          obtain ⟨v, h8, h9⟩ := hok1 e t hp _ r h6
          exact go v h8 (.inr fun φ a w g1 hra g3 => ⟨h7 φ a hra, h9 φ a w g1 (rdA_ops hA hra) g3⟩)
        · exact go undefA h6 (.inl ⟨rfl, h7⟩)
      · cases hr
    · cases hr
end
end Go.Proofs.YtknjkljigmepjaaGreatDoor.Clo
end
