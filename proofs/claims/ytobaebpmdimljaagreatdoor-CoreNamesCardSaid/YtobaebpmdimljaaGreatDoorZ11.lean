/- Part 11 of a proof laid in parts, one behind the other; no condition of its own. -/
import Derived.Test.YtobaebpmdimljaaGreatDoorZ10
import Derived.Lib.ConvBytes
import Derived.Lib.UnsafeStr
import Derived.Lib.Builder
import Derived.Laws.StructEq
import Derived.Orders
set_option linter.all false
section
namespace Go.Proofs.YtobaebpmdimljaaGreatDoor.Clo
open Go.RowKit
set_option linter.unusedVariables false
set_option linter.unusedSimpArgs false
set_option linter.constructorNameAsVariable false
section
variable {P : Program} {G dt n : Nat} {ds : List (Option Nat)} {o : Oper}
theorem convBytes_ok {s t el : TypeId} {x : Operand} {u : TypeDesc} (ho : o.op = .convert s t x) (hs : P.underlying s = some u) (ht : P.underlying t = some (.slice el)) (he : P.underlying el = some (.int .u8)) :
    MakeOk P G dt n ds o (fun e t0 hp k => ((opd G dt n ds x).run e t0).on_s fun l => newB (.row el true (some 0) false (bytesA l)) hp fun r hp => k (.sl r 0 (lenL l) none) hp) := by
  intro e t0 hp k r hr
  obtain ⟨l, hl, h0⟩ := AV.on_s_some hr
  obtain ⟨m, nx, e', hlast, h1⟩ := newB_some h0
  refine ⟨m, nx, _, _, e', hlast, rfl, h1, fun φ a w g1 g2 => ?_⟩
  have hx := g2 x (by rw [ho]; simp [Op.operands])
  rw [hl] at hx
  obtain ⟨e1, b1⟩ := hx
  have e1' : a.eval x = .string (bytesOf l) := e1
  have hrun := Lib.run_convert_string_bytes (P := P) w s t el (bytesOf l) hs ht he
  have hsz : (bytesOf l).size = l.length := bytes_size l
  have hge : (bytesOf l).size ≤ grownCap w (bytesOf l).size 0 el := grownCap_ge w _ _ _
  refine ⟨.slice (some ⟨w.heap.size, 0, none⟩) (bytesOf l).size (grownCap w (bytesOf l).size 0 el), .cells (Lib.bytesCells w el (bytesOf l)) el ((Lib.bytesCells w el (bytesOf l)).size, (Lib.bytesCells w el (bytesOf l)).size + 1), (Lib.bytesCells w el (bytesOf l)).size, Lib.bytesWorld w el (bytesOf l), ?_,
    ⟨?_, ?_, ?_, Lib.bytesWorld_size w el _, fun j hj => Lib.bytesWorld_at_old w el _ j hj, Lib.bytesWorld_at_new w el _⟩, ?_, fun ψ _ hn => ⟨_, _, hn, by rw [hsz, lenL_eq], by rw [lenL_eq, ← hsz]; exact hge, fun _ h => by cases h⟩⟩
  · unfold execOp
    simp only [ho, e1', Sem.run_bind, hrun, Result.andThen_ok]
    rfl
  · simp [Lib.bytesWorld, World.freeze] <;> rfl
  · simp [Lib.bytesWorld, World.freeze] <;> rfl
  · simp [Lib.bytesWorld, World.freeze] <;> rfl
  · refine ⟨_, byteCells (bytesOf l), (Array.replicate (grownCap w (bytesOf l).size 0 el - (bytesOf l).size) (.int .u8 0)).toList, _, rfl, ?_, bytesA_ok b1, (fun h => by cases h), rfl, fun i hi h1 _ => absurd h1 (by simp only; omega)⟩
    simp [Lib.bytesCells, byteCells]
noncomputable def eqD (a b : D4) : Bool := D4.rec (motive := fun _ => Bool) (D4.rec true false false false b) (D4.rec false true false false b) (D4.rec false false true false b) (D4.rec false false false true b) a
noncomputable def eqId (a : Id) : Id → Bool :=
  List.rec (motive := fun _ => Id → Bool) (fun b => List.rec true (fun _ _ _ => false) b) (fun x _ ih b => List.rec false (fun y r _ => Bool.rec false (ih r) (eqD x y)) b) a
theorem eqD_eq {a b : D4} (h : eqD a b = true) : a = b := by cases a <;> cases b <;> first | rfl | cases h
theorem eqId_eq : ∀ {a b : Id}, eqId a b = true → a = b
  | [], [], _ => rfl
  | [], _ :: _, h => by cases h
  | _ :: _, [], h => by cases h
  | x :: a, y :: b, h => by
    have h' : (Bool.rec false (eqId a b) (eqD x y) : Bool) = true := h
    cases hx : eqD x y with
    | false => rw [hx] at h'; cases h'
    | true => rw [hx] at h'; rw [eqD_eq hx, eqId_eq h']
noncomputable def ptrF (op : BinOp) (a b : AV) (q : Option AV) : Option AV := match a, b with
  | .p r i, .p r' i' => match eqId r r', Nat.beq i i' with
    | true, true => match op with
      | .eql => some (.b true)
      | .neq => some (.b false)
      | _ => none
    | _, _ => none
  | _, _ => q
theorem binP_ok {op : BinOp} {t yt e : TypeId} {x y : Operand} {i : TypeInfo} (ho : o.op = .binOp op t x y yt) (hu : P.underlying t = some (.pointer e)) (hi : P.info? e = some i) :
    PureOk P G dt n ds o (fun e t0 hp k => Option.rec (motive := fun _ => R) none (fun v => k v hp) (ptrF op ((opd G dt n ds x).run e t0) ((opd G dt n ds y).run e t0) (binF (EK.of P t) (isConst x || isConst y) op ((opd G dt n ds x).run e t0) ((opd G dt n ds y).run e t0)))) := by
  intro e t0 hp k r hr
  have hr0 : Option.rec (motive := fun _ => R) none (fun v => k v hp) (ptrF op ((opd G dt n ds x).run e t0) ((opd G dt n ds y).run e t0) (binF (EK.of P t) (isConst x || isConst y) op ((opd G dt n ds x).run e t0) ((opd G dt n ds y).run e t0))) = some r := hr
  clear hr
  have old : Option.rec (motive := fun _ => R) none (fun v => k v hp) (binF (EK.of P t) (isConst x || isConst y) op ((opd G dt n ds x).run e t0) ((opd G dt n ds y).run e t0)) = some r → _ := bin_ok (P := P) (G := G) (dt := dt) (n := n) (ds := ds) ho e t0 hp k r
  generalize hA : (opd G dt n ds x).run e t0 = A at hr0 old
  generalize hB : (opd G dt n ds y).run e t0 = B at hr0 old
  have hr' : Option.rec (motive := fun _ => R) none (fun v => k v hp) (ptrF op A B (binF (EK.of P t) (isConst x || isConst y) op A B)) = some r := hr0
  unfold ptrF at hr'
  split at hr'
  · rename_i q1 i1 q2 i2
    split at hr'
    · rename_i hq hi1
      have e1 := eqId_eq hq
      have e2 : i1 = i2 := Nat.eq_of_beq_eq_true hi1
      subst e1 e2
      have key : ∀ φ (a : Act) (w : World), OpsR G dt n ds φ e t0 a.eval o.op → ∃ ad : Addr, a.eval x = .pointer (some ad) ∧ a.eval y = .pointer (some ad) := by
        intro φ a w hx
        have h1 := hx x (by rw [ho]; simp [Op.operands])
        have h2 := hx y (by rw [ho]; simp [Op.operands])
        rw [hA] at h1
        rw [hB] at h2
        obtain ⟨g, hg, e1⟩ := h1
        obtain ⟨g', hg', e2⟩ := h2
        rw [hg] at hg'
        cases hg'
        exact ⟨_, e1, e2⟩
      have heq : ∀ (ad : Addr) w, (Op.equal t (.pointer (some ad)) (.pointer (some ad))).run P w = .ok true w := fun ad w => by
        have h : ∀ d : Nat, (Op.equalIn (d + 1) t (.pointer (some ad)) (.pointer (some ad))).run P w = .ok true w := fun d => by
          simp [Op.equalIn, run_underlying hu, sizeOf, typeInfo, hi, run_sameAddr_same]
        simp [Op.equal, Op.maxDepth, h 9999]
      have gd : ∀ (ad : Addr) w, (eqGuard op t x y (.pointer (some ad)) (.pointer (some ad))).run P w = .ok () w := fun ad w => guard_run op t x y _ _ w (.inl ⟨_, rfl, (fun _ h => by cases h), (fun h => by cases h)⟩)
      split at hr'
      · refine ⟨_, hr', fun φ a w hx => ?_⟩
        obtain ⟨ad, e1, e2⟩ := key φ a w hx
        have e3 : Go.binOp .eql t (.pointer (some ad)) (.pointer (some ad)) = (do Pure.pure (.bool (← Op.equal t (.pointer (some ad)) (.pointer (some ad))))) := rfl
        refine ⟨.bool true, ?_, rfl⟩
        unfold execOp
        rw [ho]
        simp only [e1, e2, Sem.run_bind, gd ad w, Result.andThen_ok, e3, heq ad w]
        rfl
      · refine ⟨_, hr', fun φ a w hx => ?_⟩
        obtain ⟨ad, e1, e2⟩ := key φ a w hx
        have e3 : Go.binOp .neq t (.pointer (some ad)) (.pointer (some ad)) = (do Pure.pure (.bool (!(← Op.equal t (.pointer (some ad)) (.pointer (some ad)))))) := rfl
        refine ⟨.bool false, ?_, rfl⟩
        unfold execOp
        rw [ho]
        simp only [e1, e2, Sem.run_bind, gd ad w, Result.andThen_ok, e3, heq ad w]
        rfl
      · cases hr'
    · cases hr'
  · exact old hr'
noncomputable def cellEq : TypeDesc → AV → AV → Option Bool
  | .bool, .b x, .b y => some (x == y)
  | .int k0, .i k x, .i k' y => if k = k' then some (eqI x y) else none
  | .string, .s x, .s y => some (eqL x y)
  | _, _, _ => none
noncomputable def fieldsEq : List (TypeDesc × Nat) → AV → AV → Option Bool
  | [], _, _ => some true
  | (d, off) :: r, a, b => match Nat.blt off a.len, Nat.blt off b.len with
    | true, true => match cellEq d (a.at off) (b.at off) with
      | some true => fieldsEq r a b
      | some false => some false
      | none => none
    | _, _ => none
def plainF (P : Program) : List Field → Option (List (TypeDesc × Nat))
  | [] => some []
  | f :: r => match f.name == "_", P.underlying f.type, plainF P r with
    | false, some .bool, some l => some ((.bool, f.offset) :: l)
    | false, some (.int k), some l => some ((.int k, f.offset) :: l)
    | false, some .string, some l => some ((.string, f.offset) :: l)
    | _, _, _ => none
theorem plainF_cons {f : Field} {r : List Field} {L : List (TypeDesc × Nat)} (h : plainF P (f :: r) = some L) : ∃ d l, L = (d, f.offset) :: l ∧ plainF P r = some l ∧ f.name ≠ "_" ∧ P.underlying f.type = some d ∧ (d = .bool ∨ (∃ k, d = .int k) ∨ d = .string) := by
  unfold plainF at h
  split at h <;> first | (cases h; done) | skip
  all_goals
    rename_i hn hu hl
    cases h
    exact ⟨_, _, rfl, hl, by simpa using hn, hu, by simp⟩
theorem fieldsEq_ok {φ : Id → Option Plc} {a b : AV} {xs ys : Array Value} (ha : VL φ a xs.toList) (hb : VL φ b ys.toList) (w : World) (d : Nat) : ∀ {fs : List Field} {L : List (TypeDesc × Nat)} {z : Bool}, plainF P fs = some L → fieldsEq L a b = some z → (Op.eqFields (d + 1) xs ys fs).run P w = .ok z w
  | [], L, z, hL, hz => by cases hL; cases hz; rfl
  | f :: r, L, z, hL, hz => by
    obtain ⟨de, l, rfl, hl, hn, hu, hd⟩ := plainF_cons hL
    unfold fieldsEq at hz
    split at hz
    · rename_i h1 h2
      have h1' : f.offset < a.len := by simpa [Nat.blt_eq] using h1
      have h2' : f.offset < b.len := by simpa [Nat.blt_eq] using h2
      have hxl : f.offset < xs.toList.length := by rw [VL.len ha]; exact h1'
      have hyl : f.offset < ys.toList.length := by rw [VL.len hb]; exact h2'
      have hx := VL.at ha (List.getElem?_eq_getElem hxl)
      have hy := VL.at hb (List.getElem?_eq_getElem hyl)
      have hgx : xs[f.offset]? = some (xs.toList[f.offset]'hxl) := by rw [← Array.getElem?_toList]; exact List.getElem?_eq_getElem hxl
      have hgy : ys[f.offset]? = some (ys.toList[f.offset]'hyl) := by rw [← Array.getElem?_toList]; exact List.getElem?_eq_getElem hyl
      generalize xs.toList[f.offset]'hxl = vx at hx hgx
      generalize ys.toList[f.offset]'hyl = vy at hy hgy
      have hagg : aggT P f.type = some false := by
        unfold aggT
        rw [hu]
        rcases hd with rfl | ⟨k, rfl⟩ | rfl <;> rfl
      have part : ∀ (cs : Array Value) v, cs[f.offset]? = some v → (Go.part f.type cs f.offset).run P w = .ok v w := by
        intro cs v hv
        obtain ⟨v', w', e1, e2, e3⟩ := runs_isAgg (P := P) (w := w) (Q := fun b w' => b = false ∧ w' = w) hagg ⟨rfl, rfl⟩
        subst e2 e3
        unfold Go.part
        simp [e1, hv]
      have hcell : ∀ z', cellEq de (a.at f.offset) (b.at f.offset) = some z' → (Op.equalIn (d + 1) f.type vx vy).run P w = .ok z' w := by
        intro z' hc
        generalize a.at f.offset = A at hx hc
        generalize b.at f.offset = B at hy hc
        unfold cellEq at hc
        split at hc
        · have e1 : vx = _ := hx
          have e2 : vy = _ := hy
          subst e1 e2
          cases hc
          exact run_equalIn_bool w d _ _ _ hu
        · split at hc
          · rename_i hkk
            subst hkk
            have e1 : vx = _ := hx
            have e2 : vy = _ := hy
            subst e1 e2
            cases hc
            rw [run_equalIn_int w d _ _ _ _ _ hu, eqI_eq]
          · cases hc
        · obtain ⟨e1, b1⟩ := hx
          obtain ⟨e2, b2⟩ := hy
          subst e1 e2
          cases hc
          rw [run_equalIn_string w d _ _ _ hu, eqL_bytes b1 b2]
        · cases hc
      have hnn : (f.name == "_") = false := by simpa using hn
      split at hz
      · rename_i hc
        have ih := fieldsEq_ok ha hb w d hl hz
        simp only [Op.eqFields, hn, ne_eq, not_false_eq_true, if_true, Sem.run_bind, part xs vx hgx, part ys vy hgy, Result.andThen_ok, hcell true hc, Bool.not_true, Bool.false_eq_true, if_false]
        exact ih
      · rename_i hc
        cases hz
        simp only [Op.eqFields, hn, ne_eq, not_false_eq_true, if_true, Sem.run_bind, part xs vx hgx, part ys vy hgy, Result.andThen_ok, hcell false hc, Bool.not_false, if_true]
        rfl
      · cases hz
    · cases hz
theorem binS_ok {op : BinOp} {t yt : TypeId} {x y : Operand} {fs : Array Field} {L : List (TypeDesc × Nat)} (ho : o.op = .binOp op t x y yt) (hu : P.underlying t = some (.struct fs)) (hs : P.stoodInHeld t = false) (hm : P.eqGuardType P.depth t = false) (hL : plainF P fs.toList = some L) :
    PureOk P G dt n ds o (fun e t0 hp k => ((opd G dt n ds x).run e t0).on_ag fun a => ((opd G dt n ds y).run e t0).on_ag fun b => match fieldsEq L a b, op with
      | some z, .eql => k (.b z) hp
      | some z, .neq => k (.b (!z)) hp
      | _, _ => none) :=
  .pure fun e t0 hp k r hr => by
    obtain ⟨a, ha, h1⟩ := AV.on_ag_some hr
    obtain ⟨b, hb, h2⟩ := AV.on_ag_some h1
    have hfs : P.fieldsOf t = fs := by unfold Program.fieldsOf; rw [hu]
    have key : ∀ φ (ac : Act) w z, OpsR G dt n ds φ e t0 ac.eval o.op → fieldsEq L a b = some z → ∃ xs ys, ac.eval x = .agg xs ∧ ac.eval y = .agg ys ∧ (Op.equalIn 10000 t (.agg xs) (.agg ys)).run P w = .ok z w := by
      intro φ ac w z hx hz
      have h1 := hx x (by rw [ho]; simp [Op.operands])
      have h2 := hx y (by rw [ho]; simp [Op.operands])
      rw [ha] at h1
      rw [hb] at h2
      obtain ⟨xs, e1, v1⟩ := h1
      obtain ⟨ys, e2, v2⟩ := h2
      refine ⟨xs, ys, e1, e2, ?_⟩
      rw [run_equalIn_struct w 9999 t xs ys (by rw [hfs]; exact hu) hs, hfs]
      exact fieldsEq_ok v1 v2 w 9998 hL hz
    split at h2
    · rename_i z ho hz
      refine ⟨_, h2, fun φ ac w hx => ?_⟩
      obtain ⟨xs, ys, e1, e2, e3⟩ := key φ ac w z hx hz
      refine ⟨.bool z, ?_, rfl⟩
      unfold execOp
      simp only [ho, e1, e2, Sem.run_bind, run_eqGuard_agg w _ t x y xs ys hm, Result.andThen_ok, run_eql_struct, e3]
      rfl
    · rename_i z ho hz
      refine ⟨_, h2, fun φ ac w hx => ?_⟩
      obtain ⟨xs, ys, e1, e2, e3⟩ := key φ ac w z hx hz
      refine ⟨.bool (!z), ?_, rfl⟩
      unfold execOp
      simp only [ho, e1, e2, Sem.run_bind, run_eqGuard_agg w _ t x y xs ys hm, Result.andThen_ok, run_neq_struct, e3]
      rfl
    · cases h2
end
end Go.Proofs.YtobaebpmdimljaaGreatDoor.Clo
end
section
namespace Go.Proofs.YtobaebpmdimljaaGreatDoor.Clo
open Go.RowKit
set_option linter.unusedVariables false
set_option linter.unusedSimpArgs false
set_option linter.constructorNameAsVariable false
section
variable {P : Program} {G dt n : Nat} {ds : List (Option Nat)} {o : Oper}
theorem RW.shape {φ : Id → Option Plc} {h : Mem} {w : World} (hw : RW φ h w) {r : Id} {t : TypeId} {gr : Bool} {fz : Option Nat} {ro : Bool} {cells : AV} {g : Plc} (hr : h.get r = some (.row t gr fz ro cells)) (hg : φ r = some g) :
    ∃ K, w.shape? g.1 = some (t, K) ∧ cells.len ≤ K ∧ (gr = false → K = cells.len) := by
  obtain ⟨c, l, rest, m, e1, e2, e3, e4, _⟩ := hw.row hr hg
  refine ⟨c.size, by unfold World.shape?; rw [e1], ?_, fun hgr => ?_⟩
  · rw [← VL.len e3, ← Array.length_toList, e2, List.length_append]; omega
  · rw [← VL.len e3, ← Array.length_toList, e2, e4 hgr, List.append_nil]
theorem toUnsafe_ok {s t te : TypeId} {x : Operand} {i : TypeInfo} (ho : o.op = .convert s t x) (hs : P.underlying s = some (.pointer te)) (ht : P.underlying t = some .unsafePointer) (hi : P.info? te = some i) (hz : i.size ≠ 0) :
    StillOk P G dt n ds o (fun e t0 hp k => ((opd G dt n ds x).run e t0).on_p fun r q => hp.on fun mem _ => onRow mem r fun _ _ _ _ cells => match Nat.blt q cells.len with
      | true => k (.p r q) hp
      | false => none) :=
  fun e t0 hp k r hr => by
    obtain ⟨b, q, hb, h1⟩ := AV.on_p_some hr
    cases hp with
    | mk m nx =>
    obtain ⟨t1, gr, fz, ro, cells, hm, h2⟩ := onRow_some (show onRow m b _ = some r from h1)
    split at h2
    · rename_i hq
      have hq' : q < cells.len := by simpa [Nat.blt_eq] using hq
      refine ⟨_, h2, fun φ a w _ hx hw => ?_⟩
      obtain ⟨g, hg, e1⟩ : ∃ g, φ b = some g ∧ a.eval x = .pointer (some ⟨g.1, q, none⟩) := by have := hx x (by rw [ho]; simp [Op.operands]); rw [hb] at this; exact this
      obtain ⟨K, e2, e3, _⟩ := (show RW φ m w from hw).shape hm hg
      have hrun := Lib.run_to_unsafe (P := P) w ⟨g.1, q, none⟩ hs ht hi hz e2 (by show q < K; omega)
      refine ⟨.pointer (some ⟨g.1, q, none⟩), ?_, g, hg, rfl⟩
      unfold execOp
      simp only [ho, e1, Sem.run_bind, hrun, Result.andThen_ok]
      rfl
    · cases h2
theorem fromUnsafe_ok {s t u : TypeId} {x : Operand} {i : TypeInfo} (ho : o.op = .convert s t x) (hs : P.underlying s = some .unsafePointer) (ht : P.underlying t = some (.pointer u)) (hi : P.info? u = some i) :
    StillOk P G dt n ds o (fun e t0 hp k => ((opd G dt n ds x).run e t0).on_p fun r q => hp.on fun mem _ => onRow mem r fun t1 gr _ _ cells => match gr, liesAt P P.depth t1 (cells.len / P.cellsOf t1) q u 1 with
      | false, true => k (.p r q) hp
      | _, _ => none) :=
  fun e t0 hp k r hr => by
    obtain ⟨b, q, hb, h1⟩ := AV.on_p_some hr
    cases hp with
    | mk m nx =>
    obtain ⟨t1, gr, fz, ro, cells, hm, h2⟩ := onRow_some (show onRow m b _ = some r from h1)
    split at h2
    · rename_i hl
      refine ⟨_, h2, fun φ a w _ hx hw => ?_⟩
      obtain ⟨g, hg, e1⟩ : ∃ g, φ b = some g ∧ a.eval x = .pointer (some ⟨g.1, q, none⟩) := by have := hx x (by rw [ho]; simp [Op.operands]); rw [hb] at this; exact this
      obtain ⟨K, e2, e3, e4⟩ := (show RW φ m w from hw).shape hm hg
      have e5 := e4 rfl
      subst e5
      have hrun := Lib.run_from_unsafe (P := P) w ⟨g.1, q, none⟩ hs ht hi e2 hl
      refine ⟨.pointer (some ⟨g.1, q, none⟩), ?_, g, hg, rfl⟩
      unfold execOp
      simp only [ho, e1, Sem.run_bind, hrun, Result.andThen_ok]
      rfl
    · cases h2
noncomputable def dataF (a : AV) (k : AV → R) : R := match a with
  | .sn => k .pn
  | .sl r q m _ => match Nat.beq m 0 with
    | true => none
    | false => k (.p r q)
  | .sg r q m _ => match Nat.beq m 0 with
    | true => none
    | false => k (.p r q)
  | _ => none
theorem sliceData_ok {t : TypeId} {x : Operand} (ho : o.op = .call { callee := .builtin .unsafeSliceData, args := #[x], argTypes := #[t] }) :
    PureOk P G dt n ds o (fun e t0 hp k => dataF ((opd G dt n ds x).run e t0) fun v => k v hp) :=
  .pure fun e t0 hp k r hr => by
    have fin : ∀ (v : AV) (v' : (Id → Option Plc) → Act → World → Value), k v hp = some r → (∀ φ (a : Act) (w : World), OpsR G dt n ds φ e t0 a.eval o.op → (Builtin.unsafeSliceData_ #[t] o.type #[a.eval x]).run P w = .ok (v' φ a w) w ∧ VR φ v (v' φ a w)) → ∃ v, k v hp = some r ∧ ∀ φ (a : Act) w, OpsR G dt n ds φ e t0 a.eval o.op → ∃ v', (execOp a.eval o).run P w = .ok (.value v') w ∧ VR φ v v' := by
      intro v v' hk hall
      refine ⟨v, hk, fun φ a w hx => ?_⟩
      obtain ⟨h1, h2⟩ := hall φ a w hx
      refine ⟨_, ?_, h2⟩
      unfold execOp
      simp only [ho, resolve, invoke, builtin, Sem.run_bind, Sem.run_pure, Result.andThen_ok, List.map_toArray, List.map_cons, List.map_nil, h1]
    have h1 : dataF ((opd G dt n ds x).run e t0) (fun v => k v hp) = some r := hr
    unfold dataF at h1
    split at h1
    · rename_i hs
      refine fin .pn (fun _ _ _ => .pointer none) h1 fun φ a w hx => ?_
      have e1 : a.eval x = .slice none 0 0 := by have := hx x (by rw [ho]; simp [Op.operands, Call.operands]); rw [hs] at this; exact this
      rw [e1]
      exact ⟨Lib.run_unsafeSliceData_nil (P := P) w #[t] o.type 0 0, rfl⟩
    · rename_i b q m c hs
      split at h1
      · cases h1
      rename_i hm
      have hm' : m ≠ 0 := fun e => by subst e; cases hm
      refine fin (.p b q) (fun φ a w => .pointer ((φ b).map fun g => ⟨g.1, q, none⟩)) h1 fun φ a w hx => ?_
      obtain ⟨g, c', hg, e1, hle, _⟩ : ∃ g k, φ b = some g ∧ a.eval x = .slice (some ⟨g.1, q, none⟩) m k ∧ m ≤ k ∧ (∀ z, c = some z → k = z) := by have := hx x (by rw [ho]; simp [Op.operands, Call.operands]); rw [hs] at this; exact this
      rw [e1]
      simp only [hg, Option.map_some]
      exact ⟨Lib.run_unsafeSliceData_row (P := P) w #[t] o.type _ m c' (by omega), g, hg, rfl⟩
    · rename_i b q m z hs
      split at h1
      · cases h1
      rename_i hm
      have hm' : m ≠ 0 := fun e => by subst e; cases hm
      refine fin (.p b q) (fun φ a w => .pointer ((φ b).map fun g => ⟨g.1, q, none⟩)) h1 fun φ a w hx => ?_
      obtain ⟨g, c', hg, e1, hle, _⟩ : ∃ g k, φ b = some g ∧ a.eval x = .slice (some ⟨g.1, q, none⟩) m k ∧ m ≤ k ∧ q + k * z = g.2 := by have := hx x (by rw [ho]; simp [Op.operands, Call.operands]); rw [hs] at this; exact this
      rw [e1]
      simp only [hg, Option.map_some]
      exact ⟨Lib.run_unsafeSliceData_row (P := P) w #[t] o.type _ m c' (by omega), g, hg, rfl⟩
    · cases h1
noncomputable def ustrF (e : TypeId) (a : AV) (m : Nat) (hp : HP) (k : KV) : R := match Nat.beq m 0 with
  | true => match a with
    | .p _ _ => k (.s []) hp
    | .pn => k (.s []) hp
    | _ => none
  | false => a.on_p fun r q => match Nat.beq q 0 with
    | false => none
    | true => hp.on fun mem nx => onRow mem r fun t gr fz ro cells => match ro, Nat.beq t e, Nat.ble m 9223372036854775807 with
      | false, true, true => bytesK m cells fun ns => k (.s ns) (.mk (mem.set r (.row t gr none false cells)) nx)
      | _, _, _ => none
theorem unsafeString_ok {pt it e : TypeId} {x y : Operand} (ho : o.op = .call { callee := .builtin .unsafeString, args := #[x, y], argTypes := #[pt, it] }) (hp' : P.underlying pt = some (.pointer e)) (hc : P.cellsOf e = 1) :
    ValOk P G dt n ds o (fun E t0 hp k => match (opd G dt n ds y).run E t0 with
      | .i .i64 j => onNat j fun m => ustrF e ((opd G dt n ds x).run E t0) m hp k
      | _ => none) := by
  intro E t0 hp k r hr
  have wrap : ∀ (a : Act) (w w' : World) (v' : Value), (Builtin.unsafeString_ #[pt, it] o.type #[a.eval x, a.eval y]).run P w = .ok v' w' → (execOp a.eval o).run P w = .ok (.value v') w' := by
    intro a w w' v' h
    unfold execOp
    simp only [ho, resolve, invoke, builtin, Sem.run_bind, Sem.run_pure, Result.andThen_ok, List.map_toArray, List.map_cons, List.map_nil, h]
  have hr0 : (match (generalizing := false) (opd G dt n ds y).run E t0 with
      | .i .i64 j => onNat j fun m => ustrF e ((opd G dt n ds x).run E t0) m hp k
      | _ => none : R) = some r := hr
  split at hr0
  · rename_i j hy
    obtain ⟨m, rfl, h1⟩ := onNat_some hr0
    have hy' : ∀ φ (a : Act), OpsR G dt n ds φ E t0 a.eval o.op → a.eval y = .int .i64 (m : Int) := fun φ a hx => by
      have := hx y (by rw [ho]; simp [Op.operands, Call.operands])
      rw [hy] at this
      exact this
    unfold ustrF at h1
    split at h1
    · rename_i hm
      have hm' : m = 0 := Nat.eq_of_beq_eq_true hm
      subst hm'
      have zero : k (.s []) hp = some r → (∀ φ (a : Act), OpsR G dt n ds φ E t0 a.eval o.op → ∃ p, a.eval x = .pointer p) → ∃ v hp', k v hp' = some r ∧ ∀ {sts : List Site} φ (B : Bse sts) (a : Act) w, Glo G φ → OpsR G dt n ds φ E t0 a.eval o.op → WH φ B hp w →
          ∃ ψ v' w', ((execOp a.eval o).run P w = .ok (.value v') w' ∨ ((execOp a.eval o).run P w = .ok .skip w' ∧ v' = undef)) ∧ VR ψ v v' ∧ StH φ hp w ψ hp' w' ∧ WH ψ B hp' w' := by
        intro hk hpt
        refine ⟨_, _, hk, fun φ B a w _ hx hw => ?_⟩
        obtain ⟨p, e1⟩ := hpt φ a hx
        refine ⟨φ, .string .empty, w, .inl (wrap a w w _ ?_), ⟨rfl, fun _ h => by cases h⟩, Step.refl, hw⟩
        rw [e1, hy' φ a hx]
        exact Lib.run_unsafeString_none (P := P) w pt it o.type p
      split at h1
      · rename_i q i hs
        exact zero h1 fun φ a hx => by
          have := hx x (by rw [ho]; simp [Op.operands, Call.operands])
          rw [hs] at this
          obtain ⟨g, _, e1⟩ := this
          exact ⟨_, e1⟩
      · rename_i hs
        exact zero h1 fun φ a hx => by
          have := hx x (by rw [ho]; simp [Op.operands, Call.operands])
          rw [hs] at this
          exact ⟨_, this⟩
      · cases h1
    · rename_i hm
      have hm' : m ≠ 0 := fun e => by subst e; cases hm
      obtain ⟨b, q, hb, h2⟩ := AV.on_p_some h1
      split at h2
      · cases h2
      rename_i hq
      have hq' : q = 0 := Nat.eq_of_beq_eq_true hq
      subst hq'
      cases hp with
      | mk mem nx =>
      obtain ⟨t1, gr, fz, ro, cells, hme, h3⟩ := onRow_some (show onRow mem b _ = some r from h2)
      split at h3
      · rename_i hte h63
        have hte' : t1 = e := Nat.eq_of_beq_eq_true hte
        subst hte'
        have h63' : m ≤ 9223372036854775807 := Nat.le_of_ble_eq_true h63
        obtain ⟨ns, h4, h5, h6, h7⟩ := bytesK_some m h3
        refine ⟨_, _, h4, fun φ B a w _ hx hw => ?_⟩
        have hw' : WR φ B mem nx w := hw
        obtain ⟨g, hg, e1⟩ : ∃ g, φ b = some g ∧ a.eval x = .pointer (some ⟨g.1, 0, none⟩) := by have := hx x (by rw [ho]; simp [Op.operands, Call.operands]); rw [hb] at this; exact this
        obtain ⟨c, l, rest, mk, c1, c2, c3, c4, c5, _⟩ := hw'.rw.row hme hg
        have c7 := h7 φ l c3
        have hlen : m ≤ l.length := by
          have := congrArg List.length c7
          rw [List.length_take, List.length_map, h5] at this
          omega
        have hcell : ∀ j z, (ns.map UInt8.ofNat)[j]? = some z → w.cell? ((⟨g.1, 0, none⟩ : Addr).add j) = some (.int .u8 z.toNat) := by
          intro j z hz
          rw [List.getElem?_map] at hz
          obtain ⟨b', hb', hz'⟩ := Option.map_eq_some_iff.1 hz
          have hjm : j < m := by rw [← h5]; exact (List.getElem?_eq_some_iff.1 hb').1
          have hlj : l[j]? = some (.int .u8 (b' : Int)) := by
            have h8 := congrArg (fun l => l[j]?) c7
            simp only [List.getElem?_take, List.getElem?_map, hb', Option.map_some] at h8
            rw [if_pos hjm] at h8
            exact h8
          rw [add_lit, Nat.zero_add, cell_row c1 c2 hlj, ← hz']
          have := h6 b' (List.mem_of_getElem? hb')
          simp [UInt8.toNat_ofNat', Nat.mod_eq_of_lt this]
        have hsh : w.shape? g.1 = some (t1, c.size) := by unfold World.shape?; rw [c1]
        have hnl : (ns.map UInt8.ofNat).length = m := by rw [List.length_map, h5]
        have hrun := Lib.run_unsafeString_row (P := P) w pt it o.type t1 hp' hc g.1 c.size hsh (ns.map UInt8.ofNat) (fun h => hm' (by rw [← hnl, h]; rfl)) (by rw [hnl, ← Array.length_toList, c2, List.length_append]; omega) (by rw [hnl]; exact h63') hcell
        rw [hnl] at hrun
        have hgs := hw'.lt b g hg
        have hat : (w.freeze ⟨g.1, 0, none⟩ m).heap[g.1]? = some (.cells c t1 (if mk.1 == mk.2 then (0, 0 + m) else (min mk.1 0, max mk.2 (0 + m)))) := by
          simp only [World.freeze, hm', if_false, Array.getElem?_modify, if_pos, c1, Option.map_some]
        obtain ⟨s1, s2⟩ := hw'.put (w' := w.freeze ⟨g.1, 0, none⟩ m) (y := .row t1 gr none false cells) (o := .cells c t1 (if mk.1 == mk.2 then (0, 0 + m) else (min mk.1 0, max mk.2 (0 + m)))) hme rfl rfl hg
          (by simp [World.freeze, hm']) (by simp [World.freeze, hm']) (by simp [World.freeze, hm']) (by simp [World.freeze, hm'])
          (fun k hk => by simp [World.freeze, hm', Array.getElem?_modify, Ne.symm hk]) hat ⟨c, l, rest, _, rfl, c2, c3, c4, c5, trivial⟩
        refine ⟨φ, .string ⟨(ns.map UInt8.ofNat).toArray⟩, _, .inl (wrap a w _ _ ?_), ⟨rfl, h6⟩, s2, s1⟩
        rw [e1, hy' φ a hx]
        exact hrun
      · cases h3
  · cases hr0
end
end Go.Proofs.YtobaebpmdimljaaGreatDoor.Clo
end
section
namespace Go.Proofs.YtobaebpmdimljaaGreatDoor.Clo
open Go.RowKit
set_option linter.unusedVariables false
set_option linter.unusedSimpArgs false
set_option linter.constructorNameAsVariable false
inductive PI where | run (i : Nat) | chk (i : Nat)
def Kd.same : Kd → Kd → Bool
  | .pure, .pure | .still, .still | .make, .make | .eff, .eff => true
  | _, _ => false
theorem Kd.same_eq {a b : Kd} (h : a.same b = true) : a = b := by cases a <;> cases b <;> first | rfl | cases h
def gslot (ops : Array Oper) (o : Oper) : Option Nat := match o.guard with
  | none => none
  | some (j, _) => (ops[j]?).bind (·.dst)
def slotOf : Operand → Option Nat
  | .tmp t => some t
  | _ => none
def reads (ops : Array Oper) (o : Oper) : List Nat := (gslot ops o).toList ++ o.op.operands.toList.filterMap slotOf
def edgeMask (acc : List Nat) : List Edge → Nat
  | [] => 0
  | e :: r => match Region.binds .any e with
    | true => Nat.lor (Nat.lor (Nat.shiftLeft 1 e.on) (acc.getD e.on 0)) (edgeMask acc r)
    | false => edgeMask acc r
def masks : List Oper → List Nat → List Nat
  | [], acc => acc
  | o :: r, acc => masks r (acc ++ [edgeMask acc o.after.toList])
theorem edgeMask_bit {acc : List Nat} : ∀ {es : List Edge} {j : Nat}, (edgeMask acc es).testBit j = true → ∃ e ∈ es, Region.binds .any e = true ∧ (e.on = j ∨ (acc.getD e.on 0).testBit j = true)
  | [], j, h => by simp [edgeMask] at h
  | e :: r, j, h => by
    unfold edgeMask at h
    split at h
    · rename_i hb
      have h' : (((1 <<< e.on) ||| acc.getD e.on 0) ||| edgeMask acc r).testBit j = true := h
      rw [Nat.testBit_or, Nat.testBit_or, Bool.or_eq_true, Bool.or_eq_true] at h'
      rcases h' with (h' | h') | h'
      · rw [Nat.testBit_shiftLeft, Bool.and_eq_true, decide_eq_true_eq] at h'
        have h2 := h'.2
        rw [show (1 : Nat) = 2 ^ 0 from rfl, Nat.testBit_two_pow, decide_eq_true_eq] at h2
        exact ⟨e, by simp, hb, .inl (by omega)⟩
      · exact ⟨e, by simp, hb, .inr h'⟩
      · obtain ⟨e', he, h1⟩ := edgeMask_bit h'
        exact ⟨e', by simp [he], h1⟩
    · obtain ⟨e', he, h1⟩ := edgeMask_bit h
      exact ⟨e', by simp [he], h1⟩
def Closed (ops : Array Oper) (S : Nat → Prop) : Prop := ∀ i o, ops[i]? = some o → S i → ∀ e ∈ o.after, Region.binds .any e = true → S e.on
theorem masks_ok {ops : Array Oper} : ∀ (l pre : List Oper) (acc : List Nat), ops.toList = pre ++ l → acc.length = pre.length →
    (∀ i j, (acc.getD i 0).testBit j = true → ∀ S, Closed ops S → S i → S j) → ∀ i j, ((masks l acc).getD i 0).testBit j = true → ∀ S, Closed ops S → S i → S j
  | [], pre, acc, _, _, h => h
  | o :: l, pre, acc, e, hl, h => by
    refine masks_ok l (pre ++ [o]) _ (by rw [e]; simp) (by simp [hl]) fun i j hb S hS hi => ?_
    by_cases h1 : i < acc.length
    · rw [show (acc ++ [edgeMask acc o.after.toList]).getD i 0 = acc.getD i 0 by simp [List.getD, List.getElem?_append_left h1]] at hb
      exact h i j hb S hS hi
    · by_cases h2 : i = acc.length
      · subst h2
        have : ((acc ++ [edgeMask acc o.after.toList]).getD acc.length 0) = edgeMask acc o.after.toList := by simp [List.getD]
        rw [this] at hb
        obtain ⟨e', he, hbi, hc⟩ := edgeMask_bit hb
        have ho : ops[acc.length]? = some o := by rw [← Array.getElem?_toList, e, hl]; simp
        have hs := hS _ o ho hi e' (Array.mem_toList_iff.1 he) hbi
        rcases hc with rfl | hc
        · exact hs
        · exact h _ _ hc S hS hs
      · rw [show (acc ++ [edgeMask acc o.after.toList]).getD i 0 = 0 by simp [List.getD, List.getElem?_eq_none (show (acc ++ [edgeMask acc o.after.toList]).length ≤ i by simp; omega)]] at hb
        simp at hb
theorem anc_ok {ops : Array Oper} {i j : Nat} (h : ((masks ops.toList []).getD i 0).testBit j = true) {S : Nat → Prop} (hS : Closed ops S) (hi : S i) : S j :=
  masks_ok ops.toList [] [] rfl rfl (fun i j h => by simp at h) i j h S hS hi
def bitOf (i : Nat) : Nat := Nat.shiftLeft 1 i
theorem bit_or {D i j : Nat} : (Nat.lor D (bitOf i)).testBit j = true ↔ D.testBit j = true ∨ j = i := by
  show ((D ||| (1 <<< i)).testBit j = true) ↔ _
  rw [Nat.testBit_or, Bool.or_eq_true, Nat.testBit_shiftLeft, Bool.and_eq_true, decide_eq_true_eq, show (1 : Nat) = 2 ^ 0 from rfl, Nat.testBit_two_pow, decide_eq_true_eq]
  constructor
  · rintro (h | ⟨h1, h2⟩)
    · exact .inl h
    · exact .inr (by omega)
  · rintro (h | rfl)
    · exact .inl h
    · exact .inr ⟨Nat.le_refl _, by omega⟩
def subB (a b : Nat) : Bool := Nat.beq (Nat.land a b) a
theorem subB_ok {a b j : Nat} (h : subB a b = true) (hj : a.testBit j = true) : b.testBit j = true := by
  have e : a &&& b = a := Nat.eq_of_beq_eq_true h
  rw [← e, Nat.testBit_and, Bool.and_eq_true] at hj
  exact hj.2
section
variable (ops : Array Oper) (ms : List Nat) (kindM : Oper → Kd)
def dstsOf : List (Option Nat) := ops.toList.map (·.dst)
def slotB (i D d : Nat) : List (Option Nat) → Nat → Bool
  | [], _ => true
  | x :: r, j => (match x with
    | none => true
    | some d' => match Nat.beq d' d with
      | false => true
      | true => Nat.beq j i || (ms.getD i 0).testBit j || ((ms.getD j 0).testBit i && !D.testBit j)) && slotB i D d r (j + 1)
def slotsB (i D : Nat) (rd : List Nat) : Bool := rd.all fun d => slotB ms i D d (dstsOf ops) 0
def isStill : Kd → Bool
  | .still => true
  | _ => false
def due (i D : Nat) : List Oper → Nat → List Nat
  | [], _ => []
  | o :: r, j => match D.testBit j, isStill (kindM o), (ms.getD i 0).testBit j with
    | true, true, false => j :: due i D r (j + 1)
    | _, _, _ => due i D r (j + 1)
def isEff : Kd → Bool
  | .eff => true
  | _ => false
def planB : List PI → Nat → Nat → List Nat → Bool
  | [], D, _, [] => (List.range ops.size).all fun j => D.testBit j
  | [], _, _, _ :: _ => false
  | .run i :: r, D, E, [] => match ops[i]? with
    | none => false
    | some o => !D.testBit i && subB (ms.getD i 0) D && subB E (ms.getD i 0) && slotsB ops ms i D (reads ops o) &&
      (match isEff (kindM o) with
      | true => planB r (Nat.lor D (bitOf i)) (Nat.lor E (bitOf i)) (due ms kindM i D ops.toList 0)
      | false => planB r (Nat.lor D (bitOf i)) E [])
  | .run _ :: _, _, _, _ :: _ => false
  | .chk _ :: _, _, _, [] => false
  | .chk i :: r, D, E, c :: C => match ops[i]? with
    | none => false
    | some o => Nat.beq i c && slotsB ops ms i D (reads ops o) && (match o.dst with | none => false | some d => !(reads ops o).contains d) && planB r D E C
def onceB : List (Option Nat) → Bool
  | [] => true
  | none :: r => onceB r
  | some d :: r => !r.contains (some d) && onceB r
def backB : List Oper → Nat → Bool
  | [], _ => true
  | o :: r, i => (o.after.toList.all fun e => !Region.binds .any e || Nat.blt e.on i) && backB r (i + 1)
def findR (D : Nat) (eff : Bool) : List Oper → Nat → Option Nat
  | [], _ => none
  | o :: r, j => match D.testBit j, subB (ms.getD j 0) D, isEff (kindM o) == eff with
    | false, true, true => some j
    | _, _, _ => findR D eff r (j + 1)
def mkPlan : Nat → Nat → List PI
  | 0, _ => []
  | f + 1, D => match findR ms kindM D false ops.toList 0 with
    | some i => .run i :: mkPlan f (Nat.lor D (bitOf i))
    | none => match findR ms kindM D true ops.toList 0 with
      | some i => .run i :: ((due ms kindM i D ops.toList 0).map PI.chk ++ mkPlan f (Nat.lor D (bitOf i)))
      | none => []
end
section
variable {ops : Array Oper} {ms : List Nat} {kindM : Oper → Kd}
theorem slotB_ok {i D d : Nat} : ∀ {l : List (Option Nat)} {j0 : Nat}, slotB ms i D d l j0 = true → ∀ j, l[j]? = some (some d) → j0 + j = i ∨ (ms.getD i 0).testBit (j0 + j) = true ∨ ((ms.getD (j0 + j) 0).testBit i = true ∧ D.testBit (j0 + j) = false)
  | [], j0, _, j, h => by simp at h
  | x :: r, j0, h, 0, hj => by
    simp at hj
    subst hj
    unfold slotB at h
    simp only [Nat.beq_refl, Bool.and_eq_true, Bool.or_eq_true, Bool.not_eq_true'] at h
    rcases h.1 with (h1 | h1) | h1
    · exact .inl (Nat.eq_of_beq_eq_true h1)
    · exact .inr (.inl h1)
    · exact .inr (.inr h1)
  | x :: r, j0, h, j + 1, hj => by
    unfold slotB at h
    rw [Bool.and_eq_true] at h
    have := slotB_ok h.2 j (by simpa using hj)
    rw [show j0 + (j + 1) = j0 + 1 + j by omega]
    exact this
theorem slotsB_ok {i D : Nat} {rd : List Nat} (h : slotsB ops ms i D rd = true) {d : Nat} (hd : d ∈ rd) {j : Nat} {p : Oper} (hj : ops[j]? = some p) (hp : p.dst = some d) :
    j = i ∨ (ms.getD i 0).testBit j = true ∨ ((ms.getD j 0).testBit i = true ∧ D.testBit j = false) := by
  have h1 := List.all_eq_true.1 h d hd
  have := slotB_ok h1 j (by unfold dstsOf; rw [List.getElem?_map, Array.getElem?_toList, hj]; simp [hp])
  simpa using this
theorem due_ok {i D : Nat} : ∀ {l : List Oper} {j0 j : Nat} {o : Oper}, l[j]? = some o → D.testBit (j0 + j) = true → kindM o = .still → (ms.getD i 0).testBit (j0 + j) = false → (j0 + j) ∈ due ms kindM i D l j0
  | [], j0, j, o, h, _, _, _ => by simp at h
  | x :: r, j0, 0, o, h, h1, h2, h3 => by
    simp at h
    subst h
    unfold due
    simp only [Nat.add_zero] at h1 h3
    rw [h1, h2, h3]
    simp [isStill]
  | x :: r, j0, j + 1, o, h, h1, h2, h3 => by
    rw [show j0 + (j + 1) = j0 + 1 + j by omega] at h1 h3 ⊢
    have := due_ok (j0 := j0 + 1) (by simpa using h) h1 h2 h3
    unfold due
    split
    · exact List.mem_cons_of_mem _ this
    · exact this
theorem onceB_ok : ∀ {l : List (Option Nat)}, onceB l = true → ∀ {i j d : Nat}, l[i]? = some (some d) → l[j]? = some (some d) → i = j
  | [], _, i, j, d, h, _ => by simp at h
  | none :: r, h, i, j, d, hi, hj => by
    cases i with
    | zero => simp at hi
    | succ i => cases j with
      | zero => simp at hj
      | succ j => exact congrArg (· + 1) (onceB_ok (show onceB r = true from h) (by simpa using hi) (by simpa using hj))
  | some x :: r, h, i, j, d, hi, hj => by
    have h' : (!r.contains (some x) && onceB r) = true := h
    rw [Bool.and_eq_true] at h'
    have no : ∀ k, r[k]? = some (some x) → False := fun k hk => by
      have hm := List.mem_of_getElem? hk
      have := h'.1
      simp [hm] at this
    cases i with
    | zero =>
      simp at hi
      subst hi
      cases j with
      | zero => rfl
      | succ j => exact (no j (by simpa using hj)).elim
    | succ i => cases j with
      | zero => simp at hj; subst hj; exact (no i (by simpa using hi)).elim
      | succ j => exact congrArg (· + 1) (onceB_ok h'.2 (by simpa using hi) (by simpa using hj))
theorem once_ok (h : onceB (dstsOf ops) = true) {i j d : Nat} {o p : Oper} (hi : ops[i]? = some o) (hj : ops[j]? = some p) (ho : o.dst = some d) (hp : p.dst = some d) : i = j :=
  onceB_ok h (d := d) (by unfold dstsOf; rw [List.getElem?_map, Array.getElem?_toList, hi]; simp [ho]) (by unfold dstsOf; rw [List.getElem?_map, Array.getElem?_toList, hj]; simp [hp])
theorem backB_ok : ∀ {l : List Oper} {j0 : Nat}, backB l j0 = true → ∀ {j : Nat} {o : Oper}, l[j]? = some o → ∀ e ∈ o.after, Region.binds .any e = true → e.on < j0 + j
  | [], j0, _, j, o, h, _, _, _ => by simp at h
  | x :: r, j0, h, 0, o, hj, e, he, hb => by
    simp at hj
    subst hj
    unfold backB at h
    rw [Bool.and_eq_true] at h
    have := List.all_eq_true.1 h.1 e (Array.mem_toList_iff.2 he)
    rw [hb] at this
    simpa [Nat.blt_eq] using this
  | x :: r, j0, h, j + 1, o, hj, e, he, hb => by
    unfold backB at h
    rw [Bool.and_eq_true] at h
    have := backB_ok h.2 (j := j) (by simpa using hj) e he hb
    omega
theorem back_ok (h : backB ops.toList 0 = true) {j : Nat} {o : Oper} (hj : ops[j]? = some o) {e : Edge} (he : e ∈ o.after) (hb : Region.binds .any e = true) : e.on < j := by
  have := backB_ok h (j := j) (by rw [Array.getElem?_toList]; exact hj) e he hb
  omega
theorem planB_later : ∀ {pl : List PI} {D E : Nat} {C : List Nat}, planB ops ms kindM pl D E C = true → ∀ {i : Nat}, i < ops.size → D.testBit i = false → ∀ j, E.testBit j = true → (ms.getD i 0).testBit j = true
  | [], D, E, [], h, i, hi, hD, j, _ => by
    have := List.all_eq_true.1 (show ((List.range ops.size).all fun j => D.testBit j) = true from h) i (List.mem_range.2 hi)
    rw [hD] at this
    cases this
  | [], D, E, _ :: _, h, i, hi, hD, j, _ => by cases h
  | .run k :: r, D, E, [], h, i, hi, hD, j, hj => by
    unfold planB at h
    split at h
    · cases h
    · rename_i o ho
      simp only [Bool.and_eq_true] at h
      obtain ⟨⟨⟨⟨h1, h2⟩, h3⟩, h4⟩, h5⟩ := h
      by_cases hik : i = k
      · subst hik; exact subB_ok h3 hj
      · have hD' : (Nat.lor D (bitOf k)).testBit i = false := by
          rw [Bool.eq_false_iff]
          intro hc
          rcases bit_or.1 hc with hc | hc
          · rw [hD] at hc; cases hc
          · exact hik hc
        split at h5
        · exact planB_later h5 hi hD' j (bit_or.2 (.inl hj))
        · exact planB_later h5 hi hD' j hj
  | .run _ :: _, D, E, _ :: _, h, i, hi, hD, j, _ => by cases h
  | .chk _ :: _, D, E, [], h, i, hi, hD, j, _ => by cases h
  | .chk k :: r, D, E, c :: C, h, i, hi, hD, j, hj => by
    unfold planB at h
    split at h
    · cases h
    · simp only [Bool.and_eq_true] at h
      exact planB_later h.2 hi hD j hj
end
end Go.Proofs.YtobaebpmdimljaaGreatDoor.Clo
end
section
namespace Go.Proofs.YtobaebpmdimljaaGreatDoor.Clo
open Go.RowKit
set_option linter.unusedVariables false
set_option linter.unusedSimpArgs false
set_option linter.constructorNameAsVariable false
def eqA : AV → AV → Bool
  | .u, .u => true
  | .nil, .nil => true
  | .inil, .inil => true
  | .fnil, .fnil => true
  | .mn, .mn => true
  | .sn, .sn => true
  | .pn, .pn => true
  | .cons a b, .cons c d => eqA a c && eqA b d
  | .ifc t x, .ifc t' y => Nat.beq t t' && eqA x y
  | .fn (.func f) a b, .fn (.func g) c d => Nat.beq f g && (eqA a c && eqA b d)
  | .tu l, .tu m => eqA l m
  | .ag l, .ag m => eqA l m
  | .sl r o n none, .sl r' o' n' none => listEqId r r' && (Nat.beq o o' && Nat.beq n n')
  | .sl r o n (some c), .sl r' o' n' (some c') => listEqId r r' && (Nat.beq o o' && (Nat.beq n n' && Nat.beq c c'))
  | .sg r o n z, .sg r' o' n' z' => listEqId r r' && (Nat.beq o o' && (Nat.beq n n' && Nat.beq z z'))
  | .p r o, .p r' o' => listEqId r r' && Nat.beq o o'
  | .mp r, .mp r' => listEqId r r'
  | .s l, .s m => listEqN l m
  | .b x, .b y => x == y
  | .i k n, .i k' n' => decide (k = k') && eqI n n'
  | _, _ => false
where
  listEqId : Id → Id → Bool
    | [], [] => true
    | x :: a, y :: b => decide (x = y) && listEqId a b
    | _, _ => false
  listEqN : List Nat → List Nat → Bool
    | [], [] => true
    | x :: a, y :: b => Nat.beq x y && listEqN a b
    | _, _ => false
theorem listEqId_eq : ∀ {a b : Id}, eqA.listEqId a b = true → a = b
  | [], [], _ => rfl
  | [], _ :: _, h => by cases h
  | _ :: _, [], h => by cases h
  | x :: a, y :: b, h => by
    simp only [eqA.listEqId, Bool.and_eq_true, decide_eq_true_eq] at h
    rw [h.1, listEqId_eq h.2]
theorem listEqN_eq : ∀ {a b : List Nat}, eqA.listEqN a b = true → a = b
  | [], [], _ => rfl
  | [], _ :: _, h => by cases h
  | _ :: _, [], h => by cases h
  | x :: a, y :: b, h => by
    simp only [eqA.listEqN, Bool.and_eq_true] at h
    rw [Nat.eq_of_beq_eq_true h.1, listEqN_eq h.2]
theorem eqA_eq {a b : AV} (h : eqA a b = true) : a = b := by
  fun_induction eqA a b with
  | case1 | case2 | case3 | case4 | case5 | case6 | case7 => rfl
  | case8 a b c d ih1 ih2 => rw [Bool.and_eq_true] at h; rw [ih1 h.1, ih2 h.2]
  | case9 t x t' y ih => rw [Bool.and_eq_true] at h; rw [Nat.eq_of_beq_eq_true h.1, ih h.2]
  | case10 f a b g c d ih1 ih2 => rw [Bool.and_eq_true, Bool.and_eq_true] at h; rw [Nat.eq_of_beq_eq_true h.1, ih1 h.2.1, ih2 h.2.2]
  | case11 l m ih => rw [ih h]
  | case12 l m ih => rw [ih h]
  | case13 => simp only [Bool.and_eq_true] at h; rw [listEqId_eq h.1, Nat.eq_of_beq_eq_true h.2.1, Nat.eq_of_beq_eq_true h.2.2]
  | case14 => simp only [Bool.and_eq_true] at h; rw [listEqId_eq h.1, Nat.eq_of_beq_eq_true h.2.1, Nat.eq_of_beq_eq_true h.2.2.1, Nat.eq_of_beq_eq_true h.2.2.2]
  | case15 => simp only [Bool.and_eq_true] at h; rw [listEqId_eq h.1, Nat.eq_of_beq_eq_true h.2.1, Nat.eq_of_beq_eq_true h.2.2.1, Nat.eq_of_beq_eq_true h.2.2.2]
  | case16 => simp only [Bool.and_eq_true] at h; rw [listEqId_eq h.1, Nat.eq_of_beq_eq_true h.2]
  | case17 => rw [listEqId_eq h]
  | case18 => rw [listEqN_eq h]
  | case19 => rw [beq_iff_eq] at h; rw [h]
  | case20 => rw [Bool.and_eq_true, decide_eq_true_eq, eqI_eq, beq_iff_eq] at h; rw [h.1, h.2]
  | case21 => cases h
end Go.Proofs.YtobaebpmdimljaaGreatDoor.Clo
end
