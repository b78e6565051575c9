/- Part 14 of a proof laid in parts, one behind the other; no condition of its own. -/
import Derived.Test.YtobaebpmdimljaaGreatDoorZ13
set_option linter.all false
section
namespace Go.Proofs.YtobaebpmdimljaaGreatDoor.Clo
open Go.RowKit
set_option linter.unusedVariables false
set_option linter.unusedSimpArgs false
set_option linter.constructorNameAsVariable false
section
variable {P : Program} {G dt n : Nat} {ds : List (Option Nat)} {o : Oper}
theorem assert2_ok {x : Operand} {xT t : TypeId} {d : TypeDesc} {i : TypeInfo} {z : Value} (ho : o.op = .typeAssert x xT t true) (hu : P.underlying t = some d) (hd : ∀ m, d ≠ .interface m) (hi : P.info? t = some i) (hz : i.zero = some z) :
    PureOk P G dt n ds o (fun e t0 hp k => match (opd G dt n ds x).run e t0 with
      | .inil => k (.tu (.cons (ofConst z) (.cons (.b false) .nil))) hp
      | .ifc t' v => match Nat.beq t' t with
        | true => k (.tu (.cons v (.cons (.b true) .nil))) hp
        | false => k (.tu (.cons (ofConst z) (.cons (.b false) .nil))) hp
      | _ => none) :=
  .pure fun e t0 hp k r hr => by
    have hzv : ∀ w, (zeroValue t).run P w = .ok z w := fun w => by
      obtain ⟨b, w', q1, q2, q3⟩ := runs_zero (P := P) (w := w) (Q := fun b w' => b = z ∧ w' = w) hi hz ⟨rfl, rfl⟩
      rw [q1, q2, q3]
    have two : ∀ φ (y : AV) (u : Value) (b : Bool), VR φ y u → VR φ (.tu (.cons y (.cons (.b b) .nil))) (.tuple #[u, .bool b]) := fun φ y u b hy => ⟨#[u, .bool b], rfl, u, [.bool b], rfl, hy, .bool b, [], rfl, rfl, rfl⟩
    split at hr
    · rename_i h
      refine ⟨_, hr, fun φ a w hx => ?_⟩
      have hv := (hx x (by rw [ho]; simp [Op.operands, Call.operands]))
      rw [h] at hv
      have e1 : a.eval x = .nilIface := hv
      refine ⟨_, ?_, two φ _ z false (ofConst_ok φ z)⟩
      unfold execOp
      rw [ho]
      cases d <;> first | (exact absurd rfl (hd _)) | simp [Instr.typeAssert, run_underlying hu, e1, hzv]
    · rename_i t' v h
      split at hr
      · rename_i ht
        have ht' := Nat.eq_of_beq_eq_true ht
        subst ht'
        refine ⟨_, hr, fun φ a w hx => ?_⟩
        have hv := (hx x (by rw [ho]; simp [Op.operands, Call.operands]))
        rw [h] at hv
        obtain ⟨v', e1, e2⟩ := hv
        have e1' : a.eval x = .iface t' v' := e1
        refine ⟨_, ?_, two φ _ v' true e2⟩
        unfold execOp
        rw [ho]
        cases d <;> first | (exact absurd rfl (hd _)) | simp [Instr.typeAssert, run_underlying hu, e1']
      · rename_i ht
        have hne : t' ≠ t := fun e => by subst e; rw [Nat.beq_refl] at ht; cases ht
        refine ⟨_, hr, fun φ a w hx => ?_⟩
        have hv := (hx x (by rw [ho]; simp [Op.operands, Call.operands]))
        rw [h] at hv
        obtain ⟨v', e1, e2⟩ := hv
        have e1' : a.eval x = .iface t' v' := e1
        refine ⟨_, ?_, two φ _ z false (ofConst_ok φ z)⟩
        unfold execOp
        rw [ho]
        cases d <;> first | (exact absurd rfl (hd _)) | simp [Instr.typeAssert, run_underlying hu, e1', hne, hzv]
    · cases hr
theorem field_ok {t : TypeId} {x : Operand} {f : Nat} {fs : Array Field} {fd : Field} {i : TypeInfo} {agg : Bool} (ho : o.op = .field t x f) (hu : P.underlying t = some (.struct fs)) (hf : fs[f]? = some fd) (hi : P.info? fd.type = some i) (ha : aggT P fd.type = some agg) :
    PureOk P G dt n ds o (fun e t0 hp k => ((opd G dt n ds x).run e t0).on_ag fun cells => match agg with
        | false => cells.atR fd.offset fun v => k v hp
        | true => Option.rec (motive := fun _ => R) none (fun y => k (.ag y) hp) ((cells.drop fd.offset).takeO i.size)) :=
  .pure fun e t0 hp k r hr => by
    obtain ⟨cells, hl, h3⟩ := AV.on_ag_some hr
    have start : ∀ v, k v hp = some r → (∀ φ (xs : Array Value) (w : World), VL φ cells xs.toList → ∃ v', (part fd.type xs fd.offset).run P w = .ok v' w ∧ VR φ v v') → ∃ v, k v hp = some r ∧ ∀ φ (a : Act) w, OpsR G dt n ds φ e t0 a.eval o.op → ∃ v', (execOp a.eval o).run P w = .ok (.value v') w ∧ VR φ v v' := by
      intro v hk hp'
      refine ⟨v, hk, fun φ a w hx => ?_⟩
      obtain ⟨xs, e1, e3⟩ : ∃ xs : Array Value, a.eval x = .agg xs ∧ VL φ cells xs.toList := by have := (hx x (by rw [ho]; simp [Op.operands, Call.operands])); rw [hl] at this; exact this
      obtain ⟨v', h5, h6⟩ := hp' φ xs w e3
      refine ⟨v', ?_, h6⟩
      unfold execOp
      rw [ho]
      simp only [Instr.field, e1, asAgg, Sem.run_bind, Sem.run_pure, Result.andThen_ok, run_underlying hu, hf, h5]
    have hpart : ∀ (xs : Array Value) (w : World) (Q : Value → World → Prop), (if agg = true then Q (.agg (xs.extract fd.offset (fd.offset + i.size))) w else ∃ v, xs[fd.offset]? = some v ∧ Q v w) → Runs P (part fd.type xs fd.offset) w Q := by
      intro xs w Q h
      unfold part
      refine .bind (runs_isAgg ha ?_)
      cases agg with
      | true => exact .bind (runs_sizeOf hi (.pure h))
      | false =>
        obtain ⟨v, h5, h6⟩ := h
        show Runs P (match xs[fd.offset]? with | some v => Pure.pure v | none => stuck "part: no such cell") w Q
        rw [h5]
        exact .pure h6
    cases agg with
    | false =>
      obtain ⟨h4, h5⟩ := AV.atR_some _ h3
      refine start _ h5 fun φ xs w hv => ?_
      have hlen := VL.len hv
      have hget : xs.toList[fd.offset]? = some (xs.toList[fd.offset]'(by rw [hlen]; exact h4)) := List.getElem?_eq_getElem _
      obtain ⟨v', w', q1, q2, q3⟩ := hpart xs w (fun v' w' => w' = w ∧ VR φ (cells.at fd.offset) v') ⟨_, by rw [← Array.getElem?_toList]; exact hget, rfl, VL.at hv hget⟩
      subst q2
      exact ⟨v', q1, q3⟩
    | true =>
      cases ht : (cells.drop fd.offset).takeO i.size with
      | none => rw [ht] at h3; cases h3
      | some y =>
        rw [ht] at h3
        obtain ⟨h4, h5⟩ := AV.takeO_some i.size ht
        refine start (.ag y) h3 fun φ xs w hv => ?_
        obtain ⟨v', w', q1, q2, q3⟩ := hpart xs w (fun v' w' => w' = w ∧ VR φ (.ag y) v') ⟨rfl, _, rfl, by
          rw [h5, Array.toList_extract]
          have := VL.take i.size (VL.drop (fd.offset) hv)
          simpa [List.extract, Nat.add_sub_cancel_left] using this⟩
        subst q2
        exact ⟨v', q1, q3⟩
theorem indexAg_ok {t el : TypeId} {len : Nat} {x y : Operand} {i : TypeInfo} {agg : Bool} (ho : o.op = .index t x y) (hu : P.underlying t = some (.array len el)) (hi : P.info? el = some i) (ha : aggT P el = some agg) :
    PureOk P G dt n ds o (fun e t0 hp k => ((opd G dt n ds x).run e t0).on_ag fun cells => ((opd G dt n ds y).run e t0).on_i fun _ j => onNat j fun j => match Nat.blt j len with
      | true => (match agg with
        | false => cells.atR (Nat.mul j i.size) fun v => k v hp
        | true => Option.rec (motive := fun _ => R) none (fun y => k (.ag y) hp) ((cells.drop (Nat.mul j i.size)).takeO i.size))
      | false => none) :=
  .pure fun e t0 hp k r hr => by
    obtain ⟨cells, hl, h1⟩ := AV.on_ag_some hr
    obtain ⟨kd, j, hj, h2⟩ := AV.on_i_some h1
    obtain ⟨m, rfl, h3⟩ := onNat_some h2
    split at h3
    · rename_i hlt
      have hlt' : m < len := by simpa [Nat.blt_eq] using hlt
      have start : ∀ v, k v hp = some r → (∀ φ (xs : Array Value) (w : World), VL φ cells xs.toList → ∃ v', (part el xs (m * i.size)).run P w = .ok v' w ∧ VR φ v v') → ∃ v, k v hp = some r ∧ ∀ φ (a : Act) w, OpsR G dt n ds φ e t0 a.eval o.op → ∃ v', (execOp a.eval o).run P w = .ok (.value v') w ∧ VR φ v v' := by
        intro v hk hp'
        refine ⟨v, hk, fun φ a w hx => ?_⟩
        obtain ⟨xs, e1, e3⟩ : ∃ xs : Array Value, a.eval x = .agg xs ∧ VL φ cells xs.toList := by have := (hx x (by rw [ho]; simp [Op.operands, Call.operands])); rw [hl] at this; exact this
        have e2 : a.eval y = .int kd (m : Int) := by have := (hx y (by rw [ho]; simp [Op.operands, Call.operands])); rw [hj] at this; exact this
        obtain ⟨v', h5, h6⟩ := hp' φ xs w e3
        refine ⟨v', ?_, h6⟩
        have hso : (sizeOf el).run P w = .ok i.size w := by
          obtain ⟨b, w', q1, q2, q3⟩ := runs_sizeOf (P := P) (w := w) (Q := fun b w' => b = i.size ∧ w' = w) hi ⟨rfl, rfl⟩
          rw [q1, q2, q3]
        unfold execOp
        rw [ho]
        simp only [Instr.index, e1, e2, asIntOf, Sem.run_bind, Sem.run_pure, Result.andThen_ok, run_underlying hu]
        rw [if_pos ⟨Int.natCast_nonneg m, by omega⟩]
        simp only [Sem.run_bind, hso, Result.andThen_ok, Int.toNat_natCast, h5, Sem.run_pure]
      have hpart : ∀ (xs : Array Value) (w : World) (Q : Value → World → Prop), (if agg = true then Q (.agg (xs.extract (m * i.size) (m * i.size + i.size))) w else ∃ v, xs[m * i.size]? = some v ∧ Q v w) → Runs P (part el xs (m * i.size)) w Q := by
        intro xs w Q h
        unfold part
        refine .bind (runs_isAgg ha ?_)
        cases agg with
        | true => exact .bind (runs_sizeOf hi (.pure h))
        | false =>
          obtain ⟨v, h5, h6⟩ := h
          show Runs P (match xs[m * i.size]? with | some v => Pure.pure v | none => stuck "part: no such cell") w Q
          rw [h5]
          exact .pure h6
      cases agg with
      | false =>
        obtain ⟨h4, h5⟩ := AV.atR_some _ h3
        refine start _ h5 fun φ xs w hv => ?_
        have hlen := VL.len hv
        have hget : xs.toList[m * i.size]? = some (xs.toList[m * i.size]'(by rw [hlen]; exact h4)) := List.getElem?_eq_getElem _
        obtain ⟨v', w', q1, q2, q3⟩ := hpart xs w (fun v' w' => w' = w ∧ VR φ (cells.at (m * i.size)) v') ⟨_, by rw [← Array.getElem?_toList]; exact hget, rfl, VL.at hv hget⟩
        subst q2
        exact ⟨v', q1, q3⟩
      | true =>
        cases ht : (cells.drop (Nat.mul m i.size)).takeO i.size with
        | none => rw [ht] at h3; cases h3
        | some y =>
          rw [ht] at h3
          obtain ⟨h4, h5⟩ := AV.takeO_some i.size ht
          refine start (.ag y) h3 fun φ xs w hv => ?_
          obtain ⟨v', w', q1, q2, q3⟩ := hpart xs w (fun v' w' => w' = w ∧ VR φ (.ag y) v') ⟨rfl, _, rfl, by
            rw [h5, Array.toList_extract]
            have := VL.take i.size (VL.drop (m * i.size) hv)
            simpa [List.extract, Nat.add_sub_cancel_left] using this⟩
          subst q2
          exact ⟨v', q1, q3⟩
    · cases h3
theorem buildSl_ok {t el : TypeId} {len : Nat} {parts : Array (Nat × Operand)} {i : TypeInfo} {z : Value} {zc : AV} {L : List (Nat × Nat × GV)} (ho : o.op = .buildSlice t len parts)
    (hu : P.underlying t = some (.slice el)) (hi : P.info? el = some i) (hz : i.zero = some z) (hzs : z.cells.size = i.size) (hzc : (ofConst z).cellsO = some zc) (h24 : len * i.size ≤ 2 ^ 24)
    (hL : plan G dt n ds (fun x => some (x * i.size, i.size)) parts.toList = some L) :
    MakeOk P G dt n ds o (fun e t0 hp k => fillR L e t0 (madeA zc len) fun c => newF el c hp fun r hp => k (.sl r 0 len (some len)) hp) := by
  intro e t0 hp k r hr
  obtain ⟨cells', h1, h2⟩ := fillR_some hL hr
  obtain ⟨m, nx, e', hl, h3⟩ := newF_some h1
  refine ⟨m, nx, _, _, e', hl, rfl, h3, fun φ a w g1 g2 => ?_⟩
  generalize hzz : (Array.range (len * i.size)).map (fun j => z.cells[j % z.cells.size]!) = zs
  have hzl : VL φ (madeA zc len) zs.toList := by
    obtain ⟨h7, _⟩ := AV.cellsO_ok hzc (ofConst_ok φ z)
    have : zs = madeCells z.cells (len * z.cells.size) := by rw [← hzz, ← hzs]; rfl
    rw [this, made_list]
    exact madeA_ok h7 len
  obtain ⟨ca', f1, f2, f3⟩ := h2 φ a.eval zs (parts_of (by rw [ho]; rfl) g2) hzl
  have hf : Instr.fill (fun x => some (x * i.size, i.size)) zs (parts.map fun (i, x) => (i, a.eval x)).toList = some ca' := by
    rw [Array.toList_map]; simpa using f1
  refine ⟨.slice (some ⟨w.heap.size, 0, none⟩) len len, _, _, _, ?_, .alloc _ _, row_says f2, fun ψ _ hn => ⟨_, len, hn, rfl, Nat.le_refl _, fun _ h => by cases h; rfl⟩⟩
  have hb : ∀ parts : Array (Nat × Value), Instr.fill (fun x => some (x * i.size, i.size)) zs parts.toList = some ca' → (Instr.buildSlice t len parts).run P w = .ok (.slice (some ⟨w.heap.size, 0, none⟩) len len) (w.alloc (.cells ca' el)) := by
    intro parts hf
    have h24' : ¬ (2 ^ 24 < len * i.size) := by omega
    by_cases h0 : len * i.size = 0
    · have hzs0 : zs = #[] := by rw [← hzz, h0]; simp
      subst hzs0
      have hm : ∀ f : Nat → Value, Array.map f (Array.range 0) = #[] := fun f => by simp
      simp [Instr.buildSlice, run_underlying hu, sizeOf, typeInfo, hi, h0, hm, hf, newRow]
    · subst hzz
      have h24'' : ¬ (16777216 < len * i.size) := by omega
      simp [Instr.buildSlice, run_underlying hu, sizeOf, typeInfo, hi, h0, h24'', zeroValue, hz, hf, newRow]
  unfold execOp
  simp only [ho, Sem.run_bind, hb _ hf, Result.andThen_ok]
  rfl
theorem panic_ok {x : Operand} (ho : o.op = .panic x) : OpOk P G dt n ds o (.mk fun _ e t hp _ kp => ((opd G dt n ds x).run e t).on_ifc fun ty v => kp (.ifc ty v) hp) := by
  intro hd hok e t hp k kp r hr
  obtain ⟨ty, v, hv, h1⟩ := AV.on_ifc_some (show ((opd G dt n ds x).run e t).on_ifc (fun ty v => kp (.ifc ty v) hp) = some r from hr)
  refine .inr ⟨_, hp, h1, fun φ B a w g1 g2 g3 K Q hQ => ?_⟩
  have hx := g2 x (by rw [ho]; simp [Op.operands])
  rw [hv] at hx
  obtain ⟨u, e1, hu⟩ := hx
  have e1' : a.eval x = .iface ty u := e1
  have hrun : (execOp a.eval o).run P w = .halt (.panic (.iface ty u)) w := by
    unfold execOp
    rw [ho]
    simp [e1', Instr.panic, goPanic, Sem.run]
  refine .inl ?_
  unfold Oper.wp
  rw [hrun]
  exact hQ (.iface ty u) w ⟨φ, ⟨u, rfl, hu⟩, Step.refl, g3⟩
end
def notIfc : TypeDesc → Bool
  | .interface _ => false
  | _ => true
theorem notIfc_ok {d : TypeDesc} (h : notIfc d = true) : ∀ ms, d ≠ .interface ms := fun ms e => by subst e; cases h
abbrev OD (P : Program) (G dt n : Nat) (ds : List (Option Nat)) (o : Oper) := Option { q : Kd × OM // OmOk P G dt n ds o q }
section
variable {P : Program} {G dt n : Nat} {ds : List (Option Nat)} {o : Oper} {F : VM}
noncomputable def odP (h : PureOk P G dt n ds o F) : OD P G dt n ds o := some ⟨(.pure, .mk fun _ e t hp k _ => F e t hp k), F, rfl, h⟩
noncomputable def odS (h : StillOk P G dt n ds o F) : OD P G dt n ds o := some ⟨(.still, .mk fun _ e t hp k _ => F e t hp k), F, rfl, h⟩
noncomputable def odM (h : MakeOk P G dt n ds o F) : OD P G dt n ds o := some ⟨(.make, .mk fun _ e t hp k _ => F e t hp k), F, rfl, h⟩
noncomputable def odV (h : ValOk P G dt n ds o F) : OD P G dt n ds o := some ⟨(.eff, .mk fun _ e t hp k _ => F e t hp k), h.op⟩
noncomputable def odE {m : OM} (h : OpOk P G dt n ds o m) : OD P G dt n ds o := some ⟨(.eff, m), h⟩
theorem callB {c : Call} {b : Builtin} {ars : List Operand} {ts : List TypeId} (ho : o.op = .call c) (h1 : c.callee = .builtin b) (h2 : c.args.toList = ars) (h3 : c.argTypes.toList = ts) : o.op = .call { callee := .builtin b, args := ars.toArray, argTypes := ts.toArray } := by
  obtain ⟨cal, args, tys⟩ := c
  simp only at h1 h2 h3
  subst h1 h2 h3
  rw [ho]
theorem callV {c : Call} {f : Operand} (ho : o.op = .call c) (h1 : c.callee = .value f) : o.op = .call { callee := .value f, args := c.args, argTypes := c.argTypes } := by
  obtain ⟨cal, args, tys⟩ := c
  simp only at h1
  subst h1
  rw [ho]
end
noncomputable def odBuiltin (P : Program) (G dt n : Nat) (ds : List (Option Nat)) (o : Oper) (c : Call) (ho : o.op = .call c) (b : Builtin) (hb : c.callee = .builtin b) : OD P G dt n ds o :=
  match h2 : c.args.toList, h3 : c.argTypes.toList with
  | [x], [t] => match b, hb with
    | .len, hb => match hu : P.underlying t with
      | some .string => odP (lenS_ok (callB ho hb h2 h3) hu)
      | some (.slice _) => odP (lenV_ok (callB ho hb h2 h3) hu)
      | _ => none
    | .cap, hb => match hu : P.underlying t with
      | some (.slice _) => odP (cap_ok (callB ho hb h2 h3) hu)
      | _ => none
    | .unsafeSliceData, hb => odP (sliceData_ok (callB ho hb h2 h3))
    | .clear, hb => match hu : P.underlying t with
      | some (.slice el) => match hi : P.info? el with
        | some i => match hz : i.zero with
          | some z => match hzc : (ofConst z).cellsO with
            | some zc => if hzs : z.cells.size = i.size then odV (clear_ok (callB ho hb h2 h3) hu hi hz hzs hzc) else none
            | none => none
          | none => none
        | none => none
      | _ => none
    | _, _ => none
  | [x, y], [t, t'] => match b, hb with
    | .append, hb => match hu : P.underlying t with
      | some (.slice e) => match hi : P.info? e with
        | some i => match hz : i.zero with
          | some z => if hzs : z.cells.size = i.size then
              (match hk : P.underlying t' with
              | some (.slice e') => odV (append_ok (callB ho hb h2 h3) hu hi hz hzs (.inl ⟨e', hk⟩))
              | some .string => odV (append_ok (callB ho hb h2 h3) hu hi hz hzs (.inr hk))
              | _ => none)
            else none
          | none => none
        | none => none
      | _ => none
    | .copy, hb => match hu : P.underlying t with
      | some (.slice e) => match hi : P.info? e with
        | some i => odV (copy_ok (callB ho hb h2 h3) hu hi)
        | none => none
      | _ => none
    | .min, hb => odP (min_ok (callB ho hb h2 h3))
    | .max, hb => odP (max_ok (callB ho hb h2 h3))
    | .unsafeString, hb => match hu : P.underlying t with
      | some (.pointer e) => if hc : P.cellsOf e = 1 then odV (unsafeString_ok (callB ho hb h2 h3) hu hc) else none
      | _ => none
    | _, _ => none
  | [x, y, u], [t, t', t''] => match b, hb with
    | .min, hb => odP (min3_ok (callB ho hb h2 h3))
    | .max, hb => odP (max3_ok (callB ho hb h2 h3))
    | _, _ => none
  | _, _ => none
noncomputable def odConvert (P : Program) (G dt n : Nat) (ds : List (Option Nat)) (o : Oper) (s t : TypeId) (x : Operand) (ho : o.op = .convert s t x) : OD P G dt n ds o :=
  match hs : P.underlying s, ht : P.underlying t with
  | some d, some (.int kd) => odP (convInt_ok ho hs ht)
  | some (.slice el), some .string => match he : P.underlying el with
    | some (.int .u8) => odS (convText_ok ho hs he ht)
    | _ => none
  | some .string, some (.slice el) => match he : P.underlying el with
    | some (.int .u8) => odM (convBytes_ok ho hs ht he)
    | _ => none
  | some (.pointer te), some .unsafePointer => match hi : P.info? te with
    | some i => if hz : i.size ≠ 0 then odS (toUnsafe_ok ho hs ht hi hz) else none
    | none => none
  | some .unsafePointer, some (.pointer u) => match hi : P.info? u with
    | some i => odS (fromUnsafe_ok ho hs ht hi)
    | none => none
  | _, _ => none
noncomputable def odBin (P : Program) (G dt n : Nat) (ds : List (Option Nat)) (o : Oper) (op : BinOp) (t yt : TypeId) (x y : Operand) (ho : o.op = .binOp op t x y yt) : OD P G dt n ds o :=
  match hu : P.underlying t with
  | some (.struct fs) => match hs : P.stoodInHeld t, hm : P.eqGuardType P.depth t, hL : plainF P fs.toList with
    | false, false, some L => odP (binS_ok ho hu hs hm hL)
    | _, _, _ => none
  | some (.pointer e) => match hi : P.info? e with
    | some i => odP (binP_ok ho hu hi)
    | none => none
  | _ => odP (bin_ok ho)
noncomputable def odBuild (P : Program) (G dt n : Nat) (ds : List (Option Nat)) (o : Oper) (t : TypeId) (parts : Array (Nat × Operand)) (ho : o.op = .build t parts) : OD P G dt n ds o :=
  match hit : P.info? t with
  | some it => match hz : it.zero with
    | some z => match hzc : (ofConst z).cellsO with
      | some zc => match hu : P.underlying t with
        | some (.struct fields) => match hpl : fields.toList.mapM (fun f => (P.info? f.type).map fun i => (f.offset, i.size)) with
          | some places => match hL : plan G dt n ds (fun x => places[x]?) parts.toList with
            | some L => odP (buildS_ok ho hu hit hz hzc hpl hL)
            | none => none
          | none => none
        | some (.array len el) => match hi : P.info? el with
          | some i => match hL : plan G dt n ds (fun x => some (x * i.size, i.size)) parts.toList with
            | some L => odP (buildA_ok ho hu hit hz hzc hi hL)
            | none => none
          | none => none
        | _ => none
      | none => none
    | none => none
  | none => none
noncomputable def odSlice (P : Program) (G dt n : Nat) (ds : List (Option Nat)) (o : Oper) (t : TypeId) (x : Operand) (low high : Option Operand) (ho : o.op = .slice t x low high none) : OD P G dt n ds o :=
  match hu : P.underlying t with
  | some .string => odP (sliceS_ok ho hu)
  | some (.slice el) => match hi : P.info? el with
    | some i => odS (sliceO_ok ho hu hi)
    | none => none
  | some (.array len el) => match hi : P.info? el with
    | some i => odP (sliceP_ok ho hu hi)
    | none => none
  | _ => none
noncomputable def odSlice3 (P : Program) (G dt n : Nat) (ds : List (Option Nat)) (o : Oper) (t : TypeId) (x : Operand) (low : Option Operand) (h m : Operand) (ho : o.op = .slice t x low (some h) (some m)) : OD P G dt n ds o :=
  match hu : P.underlying t with
  | some (.slice el) => match hi : P.info? el with
    | some i => odP (sliceV3_ok ho hu hi)
    | none => none
  | _ => none
noncomputable def odAddr (P : Program) (G dt n : Nat) (ds : List (Option Nat)) (o : Oper) (t : TypeId) (x y : Operand) (ho : o.op = .indexAddr t x y) : OD P G dt n ds o :=
  match hu : P.underlying t with
  | some (.slice el) => match hi : P.info? el with
    | some i => odP (indexAddrG_ok ho hu hi)
    | none => none
  | some (.array len el) => match hi : P.info? el with
    | some i => odP (indexAddrA_ok ho hu hi)
    | none => none
  | _ => none
noncomputable def odBuildSlice (P : Program) (G dt n : Nat) (ds : List (Option Nat)) (o : Oper) (t : TypeId) (len : Nat) (parts : Array (Nat × Operand)) (ho : o.op = .buildSlice t len parts) : OD P G dt n ds o :=
  match hu : P.underlying t with
  | some (.slice el) => match hi : P.info? el with
    | some i => match hz : i.zero with
      | some z => match hzc : (ofConst z).cellsO with
        | some zc => if hzs : z.cells.size = i.size then (if h24 : len * i.size ≤ 2 ^ 24 then
            (match hL : plan G dt n ds (fun x => some (x * i.size, i.size)) parts.toList with
            | some L => odM (buildSl_ok ho hu hi hz hzs hzc h24 hL)
            | none => none) else none) else none
        | none => none
      | none => none
    | none => none
  | _ => none
def twoOf (fs : Array Field) : Option (Field × Field) := match fs.toList with
  | [a, b] => some (a, b)
  | _ => none
theorem twoOf_eq {fs : Array Field} {f0 f1 : Field} (h : twoOf fs = some (f0, f1)) : fs = #[f0, f1] := by
  unfold twoOf at h
  split at h
  · rename_i a b hl
    simp only [Option.some.injEq, Prod.mk.injEq] at h
    obtain ⟨rfl, rfl⟩ := h
    cases fs
    simp_all
  · cases h
noncomputable def odMap (P : Program) (G dt n : Nat) (ds : List (Option Nat)) (o : Oper) (mT : TypeId) (x y u : Operand) (ho : o.op = .mapUpdate mT x y u ∨ o.op = .insert mT x y u) : OD P G dt n ds o :=
  match hu : P.underlying mT with
  | some (.map kt el) => match hk : P.underlying kt with
    | some (.struct fs) => match h2 : twoOf fs with
      | some (f0, f1) => if ht : twoB P kt f0 f1 = true then odV (update2_ok ho hu (by rw [hk, twoOf_eq h2]) ht) else none
      | none => none
    | some d => odV (update_ok ho hu hk)
    | none => none
  | _ => none
noncomputable def odAll (P : Program) (G dt n : Nat) (ds : List (Option Nat)) (o : Oper) : OD P G dt n ds o :=
  match ho : o.op with
  | .move x => odP (move_ok (.inl ho))
  | .assign x => odP (move_ok (.inr ho))
  | .pick c x y => odP (pick_ok ho)
  | .alloc t => match hi : P.info? t with
    | some i => match hz : i.zero with
      | some z => match hc : (ofConst z).cellsO with
        | some c => odM (alloc_ok ho hi hz hc)
        | none => none
      | none => none
    | none => none
  | .box t x => odM (box_ok ho)
  | .build t parts => odBuild P G dt n ds o t parts ho
  | .buildSlice t len parts => odBuildSlice P G dt n ds o t len parts ho
  | .insert t m k v => odMap P G dt n ds o t m k v (.inr ho)
  | .mapUpdate t m k v => odMap P G dt n ds o t m k v (.inl ho)
  | .load t x => match ha : aggT P t, hi : P.info? t with
    | some agg, some i => odS (load_ok ho ha hi)
    | _, _ => none
  | .store t x y => match hi : P.info? t with
    | some i => odV (store_ok ho hi)
    | none => none
  | .nilCheck x => odP (nilCheck_ok ho)
  | .binOp op t x y yt => odBin P G dt n ds o op t yt x y ho
  | .unOp .not t x => odP (not_ok ho)
  | .convert s t x => odConvert P G dt n ds o s t x ho
  | .makeInterface t x => match hd : P.underlying t with
    | some d => match hn : notIfc d with
      | true => odP (makeInterface_ok ho hd (notIfc_ok hn))
      | false => none
    | none => none
  | .makeFunc f xs ys => odP (makeFunc_ok ho)
  | .makeMap t none => odM (makeMap_ok ho)
  | .makeSlice t x y => match hu : P.underlying t with
    | some (.slice el) => match hi : P.info? el with
      | some i => match hz : i.zero with
        | some z => match hzc : (ofConst z).cellsO with
          | some zc => if hzs : z.cells.size = i.size then odM (makeSlice_ok ho hu hi hz hzs hzc) else none
          | none => none
        | none => none
      | none => none
    | _ => none
  | .slice t x low high none => odSlice P G dt n ds o t x low high ho
  | .slice t x low (some h) (some m) => odSlice3 P G dt n ds o t x low h m ho
  | .fieldAddr s x f => match hs : P.underlying s with
    | some (.struct fs) => match hf : fs[f]? with
      | some fd => match hi : P.info? fd.type with
        | some i => if hz : i.size ≠ 0 then odP (fieldAddr_ok ho hs hf hi hz) else none
        | none => none
      | none => none
    | _ => none
  | .indexAddr t x y => odAddr P G dt n ds o t x y ho
  | .field t x f => match hu : P.underlying t with
    | some (.struct fs) => match hf : fs[f]? with
      | some fd => match hi : P.info? fd.type, ha : aggT P fd.type with
        | some i, some agg => odP (field_ok ho hu hf hi ha)
        | _, _ => none
      | none => none
    | _ => none
  | .index t x y => match hu : P.underlying t with
    | some .string => odP (indexS_ok ho hu)
    | some (.array len el) => match hi : P.info? el, ha : aggT P el with
      | some i, some agg => odP (indexAg_ok ho hu hi ha)
      | _, _ => none
    | _ => none
  | .lookup mT x y ok => match hu : P.underlying mT with
    | some (.map kt el) => match hk : P.underlying kt, hi : P.info? el with
      | some (.struct fs), some i => match hz : i.zero, h2 : twoOf fs with
        | some z, some (f0, f1) => if ht : twoB P kt f0 f1 = true then odS (lookup2_ok ho hu (by rw [hk, twoOf_eq h2]) ht hi hz) else none
        | _, _ => none
      | some d, some i => match hz : i.zero with
        | some z => odS (lookup_ok ho hu hk hi hz)
        | none => none
      | _, _ => none
    | _ => none
  | .range t x => match hu : P.underlying t with
    | some .string => odM (rangeS_ok ho hu)
    | _ => none
  | .next x true => odV (nextS_ok ho)
  | .typeAssert x xT t false => match hu : P.underlying t with
    | some d => match hn : notIfc d with
      | true => odP (assert_ok ho hu (notIfc_ok hn))
      | false => none
    | none => none
  | .typeAssert x xT t true => match hu : P.underlying t, hi : P.info? t with
    | some d, some i => match hn : notIfc d, hz : i.zero with
      | true, some z => odP (assert2_ok ho hu (notIfc_ok hn) hi hz)
      | _, _ => none
    | _, _ => none
  | .extract x j => odP (extract_ok ho)
  | .panic x => odE (panic_ok ho)
  | .call c => match hc : c.callee with
    | .value f => odE (call_ok (callV ho hc))
    | .builtin b => odBuiltin P G dt n ds o c ho b hc
    | .invoke _ _ => none
  | _ => none
end Go.Proofs.YtobaebpmdimljaaGreatDoor.Clo
end
section
namespace Go.Proofs.YtobaebpmdimljaaGreatDoor.Clo
open Go.RowKit
set_option linter.unusedVariables false
set_option linter.unusedSimpArgs false
set_option linter.constructorNameAsVariable false
theorem loadF_some {P : Program} {t : TypeId} {agg : Bool} {i : TypeInfo} (ha : aggT P t = some agg) (hi : P.info? t = some i) {b : Id} {q : Nat} {hp : HP} {k : KV} {x : AV × HP} (h : loadF agg i.size b q hp k = some x) :
    ∃ v, k v hp = some x ∧ ∀ φ w g, RH φ hp w → φ b = some g → Runs P (loadVar t ⟨g.1, q, none⟩) w fun v' w' => w' = w ∧ VR φ v v' := by
  cases hp with
  | mk m nx =>
  obtain ⟨t1, gr, fz, ro, cells, hm, h2⟩ := onRow_some (show onRow m b _ = some x from h)
  cases agg with
  | false =>
    obtain ⟨h3, h4⟩ := AV.atR_some q h2
    refine ⟨_, h4, fun φ w g hw hg => ?_⟩
    obtain ⟨v', h5, h6⟩ := RW.cell hw hm hg h3
    unfold loadVar
    exact .bind (runs_isAgg ha (runs_load h5 ⟨rfl, h6⟩))
  | true =>
    cases ht : (cells.drop q).takeO i.size with
    | none => simp only [ht] at h2; cases h2
    | some y =>
      simp only [ht] at h2
      obtain ⟨h3, h4⟩ := AV.takeO_some i.size ht
      refine ⟨.ag y, h2, fun φ w g hw hg => ?_⟩
      have hlen : q + i.size ≤ cells.len ∨ i.size = 0 := by
        rcases Nat.eq_zero_or_pos i.size with h0 | h0
        · exact .inr h0
        · have := AV.drop_len q cells (by omega)
          exact .inl (by omega)
      unfold loadVar
      refine .bind (runs_isAgg ha (.bind (runs_sizeOf hi (.bind ?_))))
      rcases hlen with hlen | h0
      · obtain ⟨vs, h5, h6, _⟩ := RW.cells (P := P) (show RW φ m w from hw) hm hg hlen
        exact .of h5 (.pure ⟨rfl, vs.toArray, rfl, by rw [h4]; exact h6⟩)
      · rw [h0] at h4 ⊢
        subst h4
        exact .of (a := #[]) (w' := w) rfl (.pure ⟨rfl, #[], rfl, rfl⟩)
inductive QM where | mk (f : Tr → HP → (AV → R) → R)
noncomputable def QM.run (q : QM) : Tr → HP → (AV → R) → R := QM.rec (fun f => f) q
section
variable (P : Program) (dt n : Nat)
noncomputable def resL : List ResultVar → QM
  | [] => .mk fun _ _ k => k .nil
  | .tmp d :: r => match Nat.blt d n with
    | true => let q := resL r; let p := path dt d; .mk fun t hp k => q.run t hp fun l => k (.cons (getT p t) l)
    | false => .mk fun _ _ _ => none
  | .cell a ty :: r => match Nat.blt a n, aggT P ty, P.info? ty with
    | true, some agg, some i => let q := resL r; let p := path dt a; let sz := i.size; .mk fun t hp k => (getT p t).on_p fun b o => loadF agg sz b o hp fun v _ => q.run t hp fun l => k (.cons v l)
    | _, _, _ => .mk fun _ _ _ => none
noncomputable def oneOf (l : AV) (k : AV → R) : R := match l with
  | .cons v .nil => k v
  | l => k (.tu l)
variable {P dt n}
def resOne (tmps : Array Value) : ResultVar → Sem Value
  | .tmp t => pure (tmps.getD t undef)
  | .cell a t => do loadVar t (← asAddr (tmps.getD a undef))
theorem resL_some {lo : Nat → Bool} : ∀ {rs : List ResultVar} {t : Tr} {hp : HP} {k : AV → R} {x : AV × HP}, (resL P dt n rs).run t hp k = some x → ∃ l, k l = some x ∧ ∀ {sts : List Site} φ (B : Bse sts) (a : Act) w, FR φ dt n lo t a → WH φ B hp w →
    ∃ vs : List Value, VL φ l vs ∧ vs.length = rs.length ∧ ∀ (i : Nat) (rv : ResultVar), rs[i]? = some rv → ∃ v, vs[i]? = some v ∧ (resOne a.tmps rv).run P w = .ok v w
  | [], t, hp, k, x, h => ⟨.nil, h, fun φ B a w _ _ => ⟨[], rfl, rfl, fun i rv hi => by simp at hi⟩⟩
  | .tmp d :: r, t, hp, k, x, h => by
    unfold resL at h
    split at h
    · rename_i hd
      have hd' : d < n := by simpa [Nat.blt_eq] using hd
      obtain ⟨l, h1, h2⟩ := resL_some (lo := lo) (show (resL P dt n r).run t hp _ = some x from h)
      refine ⟨_, h1, fun φ B a w hf hw => ?_⟩
      obtain ⟨vs, v1, v2, v3⟩ := h2 φ B a w hf hw
      refine ⟨a.tmps.getD d undef :: vs, ⟨_, _, rfl, hf.at' d hd', v1⟩, by simp [v2], fun i rv hi => ?_⟩
      cases i with
      | zero => simp at hi; subst hi; exact ⟨_, rfl, rfl⟩
      | succ i => exact v3 i rv (by simpa using hi)
    · cases h
  | .cell a0 ty :: r, t, hp, k, x, h => by
    unfold resL at h
    split at h
    · rename_i agg i hd ha hi
      have hd' : a0 < n := by simpa [Nat.blt_eq] using hd
      obtain ⟨b, o, hb, h1⟩ := AV.on_p_some (show (getT (path dt a0) t).on_p (fun b o => loadF agg i.size b o hp fun v _ => (resL P dt n r).run t hp fun l => k (.cons v l)) = some x from h)
      obtain ⟨v, h2, h3⟩ := loadF_some ha hi h1
      obtain ⟨l, h4, h5⟩ := resL_some (lo := lo) h2
      refine ⟨_, h4, fun φ B a w hf hw => ?_⟩
      obtain ⟨vs, v1, v2, v3⟩ := h5 φ B a w hf hw
      have hv := hf.at' a0 hd'
      rw [hb] at hv
      obtain ⟨g, hg, e1⟩ := hv
      obtain ⟨v', w', e2, rfl, e3⟩ := h3 φ w g (WR.rw hw) hg
      refine ⟨v' :: vs, ⟨_, _, rfl, e3, v1⟩, by simp [v2], fun j rv hj => ?_⟩
      cases j with
      | zero =>
        simp at hj
        subst hj
        refine ⟨v', rfl, ?_⟩
        unfold resOne
        rw [Sem.run_bind, e1]
        simp only [asAddr, Sem.run_pure, Result.andThen_ok]
        exact e2
      | succ j => exact v3 j rv (by simpa using hj)
    · cases h
theorem results_run {fn : Func} {tmps : Array Value} {w : World} {vs : List Value} (h4 : fn.results.toList.length ≤ 5) (hn : vs.length = fn.results.toList.length) (h : ∀ (i : Nat) (rv : ResultVar), fn.results.toList[i]? = some rv → ∃ v, vs[i]? = some v ∧ (resOne tmps rv).run P w = .ok v w) :
    (results fn tmps).run P w = .ok (if h : vs.toArray.size = 1 then vs.toArray[0] else .tuple vs.toArray) w := by
  have hrun : ∀ rs : List ResultVar, fn.results = rs.toArray → rs.length ≤ 5 → (∀ (i : Nat) (rv : ResultVar), rs[i]? = some rv → ∃ v, vs[i]? = some v ∧ (resOne tmps rv).run P w = .ok v w) → vs.length = rs.length →
      (results fn tmps).run P w = .ok (if h : vs.toArray.size = 1 then vs.toArray[0] else .tuple vs.toArray) w := by
    intro rs e hle hrs hlen
    have one : ∀ (i : Nat) (rv : ResultVar) (v : Value), rs[i]? = some rv → vs[i]? = some v → (resOne tmps rv).run P w = .ok v w := fun i rv v h1 h2 => by
      obtain ⟨v', h3, h4⟩ := hrs i rv h1
      rw [h2] at h3
      cases h3
      exact h4
    have unf : results fn tmps = (do
        let us ← fn.results.mapM (resOne tmps)
        pure (if h : us.size = 1 then us[0] else .tuple us)) := by
      unfold results
      have : (fun (x : ResultVar) => match x with
        | .tmp t => (pure (tmps.getD t undef) : Sem Value)
        | .cell a t => do loadVar t (← asAddr (tmps.getD a undef))) = resOne tmps := by
          funext x
          cases x <;> rfl
      rw [← this]
      rfl
    rw [unf, e]
    match rs, vs, hle, hlen, one with
    | [], [], _, _, _ => simp
    | [r1], [v1], _, _, one => simp [one 0 r1 v1 rfl rfl]
    | [r1, r2], [v1, v2], _, _, one => simp [one 0 r1 v1 rfl rfl, one 1 r2 v2 rfl rfl]
    | [r1, r2, r3], [v1, v2, v3], _, _, one => simp [one 0 r1 v1 rfl rfl, one 1 r2 v2 rfl rfl, one 2 r3 v3 rfl rfl]
    | [r1, r2, r3, r4], [v1, v2, v3, v4], _, _, one => simp [one 0 r1 v1 rfl rfl, one 1 r2 v2 rfl rfl, one 2 r3 v3 rfl rfl, one 3 r4 v4 rfl rfl]
    | [r1, r2, r3, r4, r5], [v1, v2, v3, v4, v5], _, _, one => simp [one 0 r1 v1 rfl rfl, one 1 r2 v2 rfl rfl, one 2 r3 v3 rfl rfl, one 3 r4 v4 rfl rfl, one 4 r5 v5 rfl rfl]
  exact hrun fn.results.toList (by simp) h4 h hn
theorem results_ok {fn : Func} (h4 : fn.results.toList.length ≤ 5) {l : AV} {k : AV → R} {x : AV × HP} (hk : oneOf l k = some x) : ∃ v, k v = some x ∧ ∀ φ (tmps : Array Value) (w : World) (vs : List Value), VL φ l vs → vs.length = fn.results.toList.length →
    (∀ (i : Nat) (rv : ResultVar), fn.results.toList[i]? = some rv → ∃ v, vs[i]? = some v ∧ (resOne tmps rv).run P w = .ok v w) → ∃ v', (results fn tmps).run P w = .ok v' w ∧ VR φ v v' := by
  unfold oneOf at hk
  split at hk
  · rename_i v
    refine ⟨v, hk, fun φ tmps w vs hl hn h => ?_⟩
    have hr := results_run (P := P) h4 hn h
    obtain ⟨v0, vs', e, hv, hvs⟩ := hl
    have : vs' = [] := hvs
    subst e this
    exact ⟨v0, by rw [hr]; rfl, hv⟩
  · rename_i hno
    refine ⟨_, hk, fun φ tmps w vs hl hn h => ⟨.tuple vs.toArray, ?_, vs.toArray, rfl, by simpa using hl⟩⟩
    rw [results_run (P := P) h4 hn h, dif_neg]
    intro hs
    have hs' : vs.length = 1 := by simpa using hs
    cases l with
    | cons y r =>
      obtain ⟨v0, vs', e, hv, hvs⟩ := hl
      subst e
      have h0 : vs' = [] := by simpa using hs'
      subst h0
      cases r <;> first | exact hno _ rfl | skip
      all_goals first | (obtain ⟨_, _, e, _⟩ := hvs; cases e) | exact hvs.elim
    | nil => have : vs = [] := hl; subst this; simp at hs'
    | _ => exact hl.elim
end
noncomputable def initT (dt : Nat) (lo : Nat → Bool) (l : AV) : Nat → Tr → Tr :=
  AV.rec (motive := fun _ => Nat → Tr → Tr) (fun _ t => t) (fun _ t => t) (fun x _ _ ih i t => ih (Nat.succ i) (Bool.rec (t.set (path dt i) x) t (lo i))) (fun _ t => t) (fun _ _ _ _ t => t) (fun _ t => t) (fun _ _ _ _ _ _ t => t) (fun _ t => t) (fun _ _ t => t) (fun _ _ _ t => t) (fun _ _ _ t => t) (fun _ t => t) (fun _ _ _ _ _ t => t) (fun _ _ _ _ _ t => t) (fun _ _ t => t) (fun _ _ t => t) (fun _ t => t) (fun _ _ _ t => t) (fun _ _ t => t) (fun _ _ t => t) (fun _ _ _ t => t) l
theorem FR.set {φ : Id → Option Plc} {dt n : Nat} {lo : Nat → Bool} {t : Tr} {a : Act} (hf : FR φ dt n lo t a) {i : Nat} {x : AV} (hi : i < n) (hl : lo i = false) (hx : VR φ x (a.tmps.getD i undef)) : FR φ dt n lo (t.set (path dt i) x) a := by
  have ne : ∀ k, k ≤ n → i ≠ k → path dt k ≠ path dt i := fun k hk h e => h (path_inj dt k i (Nat.lt_of_le_of_lt hk hf.cap) (Nat.lt_trans hi hf.cap) e).symm
  refine ⟨hf.sz, hf.cap, fun k hk => ?_, fun k hk hl' => ?_, ?_⟩
  · by_cases h : i = k
    · subst h; rw [getT_get, T4.get_set_same]; exact hx
    · rw [getT_get, T4.get_set_other _ _ _ _ (by rw [path_len, path_len]) (ne k (Nat.le_of_lt hk) h), ← getT_get]
      exact hf.at' k hk
  · have h : i ≠ k := fun e => by subst e; rw [hl] at hl'; cases hl'
    rw [getT_get, T4.get_set_other _ _ _ _ (by rw [path_len, path_len]) (ne k (Nat.le_of_lt hk) h), ← getT_get]
    exact hf.lo k hk hl'
  · rw [getT_get, T4.get_set_other _ _ _ _ (by rw [path_len, path_len]) (ne n (Nat.le_refl n) (Nat.ne_of_lt hi)), ← getT_get]
    exact hf.df
theorem initT_ok {φ : Id → Option Plc} {dt n : Nat} {lo : Nat → Bool} {a : Act} : ∀ {l : AV} {vs : List Value} {i : Nat} {t : Tr}, VL φ l vs → i + vs.length ≤ n → (∀ (j : Nat) (v : Value), vs[j]? = some v → a.tmps.getD (i + j) undef = v) → FR φ dt n lo t a → FR φ dt n lo (initT dt lo l i t) a
  | .nil, vs, i, t, hl, hle, hv, hf => hf
  | .cons x r, vs, i, t, ⟨v, vs', e, h1, h2⟩, hle, hv, hf => by
    subst e
    simp only [List.length_cons] at hle
    have h0 := hv 0 v rfl
    rw [Nat.add_zero] at h0
    show FR φ dt n lo (initT dt lo r (Nat.succ i) (Bool.rec (t.set (path dt i) x) t (lo i))) a
    refine initT_ok h2 (by omega) (fun j u hj => ?_) ?_
    · have := hv (j + 1) u (by simpa using hj)
      rw [← this]
      congr 1
      omega
    · cases hlo : lo i with
      | true => exact hf
      | false => exact hf.set (by omega) hlo (by rw [h0]; exact h1)
theorem FR.start {φ : Id → Option Plc} {dt n : Nat} {lo : Nat → Bool} {a : Act} (hn : n < 4 ^ dt) (hs : a.tmps.size = n) (hd : a.defers = []) : FR φ dt n lo .e a := by
  have hu : ∀ p, getT p (T4.e : Tr) = .u := fun p => by rw [getT_get, T4.get_e]; rfl
  exact ⟨hs, hn, fun d _ => by rw [hu]; exact trivial, fun d _ _ => hu _, by rw [hu, hd]; rfl⟩
theorem enter_ok {φ : Id → Option Plc} {dt n : Nat} {lo : Nat → Bool} (hn : n < 4 ^ dt) {l : AV} {ars : Array Value} (hl : VL φ l ars.toList) (hle : l.len ≤ n) : FR φ dt n lo (initT dt lo l 0 .e) { tmps := ars ++ Array.replicate (n - ars.size) undef, defers := [] } := by
  have hsz : ars.size ≤ n := by rw [← Array.length_toList, VL.len hl]; exact hle
  refine initT_ok hl (by rw [Array.length_toList]; omega) (fun j v hj => ?_) (FR.start hn (by simp; omega) rfl)
  rw [Array.getElem?_toList] at hj
  simp only [Nat.zero_add, Array.getD_eq_getD_getElem?]
  rw [Array.getElem?_append_left (Array.getElem?_eq_some_iff.1 hj).1, hj]
  rfl
def LeavesX (P : Program) (fn : Func) (tmps : Array Value) (R : Ending → World → Prop) : List Deferred → FrameMode → World → Prop
  | [], u, w => Leaves P fn tmps R [] u w
  | d :: ds, u, w => u ≠ .run ∧ ((∃ r w', d.target = .collected r ∧ (Instr.takeDeferred r).run P w = .ok [] w' ∧ LeavesX P fn tmps R ds u w') ∨
      ∃ fv cap f args, d.target = .fn fv cap ∧ (invoke d.target d.args).run P w = .ok (.enter f args) w ∧ CallsD P f args u w fun
        | .returned _, u', w' => LeavesX P fn tmps R ds (settle u') w'
        | .panicked chain, u', w' => LeavesX P fn tmps R ds (raised u' chain) w'
        | .outgrown, _, w' => R .outgrown w')
theorem leaves_stepsX {P : Program} {fn : Func} {tmps : Array Value} {R : Ending → World → Prop} : ∀ (ds : List Deferred) (u : FrameMode) (w : World) (fr : Frame)
    (cs : List Frame), fr.mode = u → fr.defers = ds → fr.tmps = tmps → P.funcs[fr.fn]? = some fn → fr.kind = .normal → LeavesX P fn tmps R ds u w →
    ∃ e w' fr', R e w' ∧ Comes P (lone fr cs w) (lone fr' cs w') e ∧ fr'.fn = fr.fn ∧ fr'.leaving P w' e := by
  intro ds
  induction ds with
  | nil => exact fun u w fr cs hu hd ht hf hk h => leaves_steps [] u w fr cs hu hd ht hf hk h
  | cons d ds ih =>
    intro u w fr cs hu hd ht hf hk h
    obtain ⟨hrun, h⟩ := h
    rcases h with ⟨r, w', htar, htake, hrest⟩ | ⟨fv, cap, f, args, htar, hinv, hcall⟩
    · have h1 := step_collected (cs := cs) (hu ▸ hrun) hd htar htake
      obtain ⟨e', w'', fr', hR', hs', hfn', hl'⟩ := ih u w' { fr with defers := [] ++ ds } cs hu rfl ht hf hk hrest
      exact ⟨e', w'', fr', hR', Comes.of_steps (.one h1) hs', hfn', hl'⟩
    · have h1 := step_defer (cs := cs) (hu ▸ hrun) hd htar hinv
      obtain ⟨e, u', w', frX, hR, hsteps, hkX, hgo⟩ := hcall { fr with defers := ds } cs hu
      cases e with
      | returned v =>
        have h2 := step_going_returned (c := { { fr with defers := ds } with mode := u' }) (cs := cs) hkX hgo
        obtain ⟨e', w'', fr', hR', hs', hfn', hl'⟩ := ih (settle u') w' { { { fr with defers := ds } with mode := u' } with mode := settle u' } cs rfl rfl ht hf hk hR
        exact ⟨e', w'', fr', hR', Comes.of_steps (.head h1 (Steps.trans hsteps (.one h2))) hs', hfn', hl'⟩
      | panicked chain =>
        have h2 := step_going_panicked (c := { { fr with defers := ds } with mode := u' }) (cs := cs) hgo
        obtain ⟨e', w'', fr', hR', hs', hfn', hl'⟩ := ih (raised u' chain) w' { { { fr with defers := ds } with mode := u' } with mode := raised u' chain } cs rfl rfl ht hf hk hR
        exact ⟨e', w'', fr', hR', Comes.of_steps (.head h1 (Steps.trans hsteps (.one h2))) hs', hfn', hl'⟩
      | outgrown => exact ⟨.outgrown, w', fr, hR, Outgrown.of_steps (.one h1) hsteps, rfl, trivial⟩
def bodyPostX (P : Program) (fn : Func) (R : Ending → World → Prop) : Exit → Act → World → Prop
  | .normal, a, w | .ret, a, w => LeavesX P fn a.tmps R a.defers .returning w
  | .panic chain, a, w => LeavesX P fn a.tmps R a.defers (.panicking chain) w
  | .outgrown, _, w => R .outgrown w
  | _, _, _ => False
theorem calls_of_wp_marks {P : Program} {f : FuncId} {fn : Func} {c : Code} {args : Array Value} {w : World} {R : Ending → World → Prop}
    (hf : P.funcs[f]? = some fn) (hb : fn.body = some c)
    (h : c.wp P (bodyPostX P fn R) { tmps := args ++ Array.replicate (fn.ntmps - args.size) undef, defers := [] } w) : Calls P f args w R := by
  intro cs
  let b : Frame := { (default : Frame) with fn := f, kind := .normal }
  have henter : Frame.enter P f args .normal =
      b.at { tmps := args ++ Array.replicate (fn.ntmps - args.size) undef, defers := [] } [.code c] := by
    simp [Frame.enter, Frame.at, hf, hb, b]
  obtain ⟨e, a', w', hq, harr⟩ := h b [] cs
  rw [← henter] at harr
  cases e with
  | normal =>
    obtain ⟨e', w'', fr', hR, hs, hfn, hl⟩ := leaves_stepsX a'.defers .returning w' { b.at a' [] with mode := .returning } cs rfl rfl rfl hf rfl hq
    exact ⟨e', w'', fr', hR, Comes.of_steps (Steps.trans harr (.one step_end)) hs, hfn, hl⟩
  | ret =>
    obtain ⟨todo, hs₀⟩ := harr
    obtain ⟨e', w'', fr', hR, hs, hfn, hl⟩ := leaves_stepsX a'.defers .returning w' { b.at a' todo with mode := .returning } cs rfl rfl rfl hf rfl hq
    exact ⟨e', w'', fr', hR, Comes.of_steps hs₀ hs, hfn, hl⟩
  | panic chain =>
    obtain ⟨todo, hs₀⟩ := harr
    obtain ⟨e', w'', fr', hR, hs, hfn, hl⟩ := leaves_stepsX a'.defers (.panicking chain) w' { b.at a' todo with mode := .panicking chain } cs rfl rfl rfl hf rfl hq
    exact ⟨e', w'', fr', hR, Comes.of_steps hs₀ hs, hfn, hl⟩
  | exit id => exact hq.elim
  | goto l => exact hq.elim
  | outgrown => exact ⟨.outgrown, w', b, hq, harr.resolve_left (by simp [b]), rfl, trivial⟩
theorem leavesX_cons {P : Program} {fn : Func} {tmps : Array Value} {R : Ending → World → Prop} {fv : Fn} {cap : Array Value} {args0 : Array Value} {ds : List Deferred} {u : FrameMode} {w : World} {f : FuncId} {args : Array Value} (hu : u ≠ .run) (hinv : (invoke (.fn fv cap) args0).run P w = .ok (.enter f args) w)
    (h : CallsD P f args u w fun
      | .returned _, u', w' => LeavesX P fn tmps R ds (settle u') w'
      | .panicked chain, u', w' => LeavesX P fn tmps R ds (raised u' chain) w'
      | .outgrown, _, w' => R .outgrown w') : LeavesX P fn tmps R ({ target := .fn fv cap, args := args0 } :: ds) u w := ⟨hu, .inr ⟨fv, cap, f, args, rfl, hinv, h⟩⟩
noncomputable def onOff (y : AV) (kf : AV → AV → R) (kq : Id → R) : R := AV.rec (motive := fun _ => R) none none (fun x0 x1 _ _ => kf x0 x1) none (fun _ _ _ => none) none (fun _ _ _ _ _ => none) none (fun q => kq q) (fun _ _ => none) (fun _ _ => none) none (fun _ _ _ _ => none) (fun _ _ _ _ => none) (fun _ => none) (fun _ => none) none (fun _ _ => none) (fun _ => none) (fun _ => none) (fun _ _ => none) y
theorem onOff_some {y : AV} {kf : AV → AV → R} {kq : Id → R} {r : AV × HP} (h : onOff y kf kq = some r) : (∃ x0 x1, y = .cons x0 x1 ∧ kf x0 x1 = some r) ∨ ∃ q, y = .mp q ∧ kq q = some r := by
  cases y <;> first | exact .inl ⟨_, _, rfl, h⟩ | exact .inr ⟨_, rfl, h⟩ | cases h
noncomputable def onDfd (hp : HP) (q : Id) (k : HP → R) : R := match hp with
  | .mk m nx => match m.get q with
    | some (.dfd true) => k (.mk (m.set q (.dfd false)) nx)
    | _ => none
theorem onDfd_some {hp : HP} {q : Id} {k : HP → R} {r : AV × HP} (h : onDfd hp q k = some r) : ∃ m nx, hp = .mk m nx ∧ m.get q = some (.dfd true) ∧ k (.mk (m.set q (.dfd false)) nx) = some r := by
  unfold onDfd at h
  split at h
  rename_i m nx
  split at h
  · rename_i e; exact ⟨m, nx, rfl, e, h⟩
  · cases h
noncomputable def leaveM (hd : Hd) (l : AV) : AV → HP → KV → R :=
  AV.rec (motive := fun _ => AV → HP → KV → R) (fun md hp k => k md hp) (fun _ _ _ => none) (fun x _ _ ih md hp k => onOff x (fun f args => f.on_fn fun f first cap => match f with
    | .func f => hd.d f (first.app (args.app cap)) md hp fun md hp => ih md hp k
    | _ => none) fun q => onDfd hp q fun hp => ih md hp k) (fun _ _ _ => none) (fun _ _ _ _ _ _ => none) (fun _ _ _ => none) (fun _ _ _ _ _ _ _ _ => none) (fun _ _ _ => none) (fun _ _ _ _ => none) (fun _ _ _ _ _ => none) (fun _ _ _ _ _ => none) (fun _ _ _ => none) (fun _ _ _ _ _ _ _ => none) (fun _ _ _ _ _ _ _ => none) (fun _ _ _ _ => none) (fun _ _ _ _ => none) (fun _ _ _ => none) (fun _ _ _ _ _ => none) (fun _ _ _ _ => none) (fun _ _ _ _ => none) (fun _ _ _ _ _ => none) l
theorem ModeR.run {φ : Id → Option Plc} {md : AV} {u : FrameMode} (h : ModeR φ md u) : u ≠ .run := by
  unfold ModeR at h
  split at h
  · rw [h]; exact nofun
  · obtain ⟨v', e, _⟩ := h; rw [e]; exact nofun
  · exact h.elim
theorem leaveM_some {P : Program} {G : Nat} {hd : Hd} (hok : HdOk P G hd) : ∀ {l : AV} {md : AV} {hp : HP} {k : KV} {x : AV × HP}, leaveM hd l md hp k = some x → ∃ md' hp', k md' hp' = some x ∧ ∀ φ (B : Bse hd.y.s) w (ds : List Deferred) u fn tmps (R : Ending → World → Prop), Glo G φ → WH φ B hp w → DfR φ l ds → ModeR φ md u →
      (∀ ψ u' w', ModeR ψ md' u' → StH φ hp w ψ hp' w' → WH ψ B hp' w' → Leaves P fn tmps R [] u' w') → LeavesX P fn tmps R ds u w
  | .u, md, hp, k, x, h => ⟨md, hp, h, fun φ B w ds u fn tmps R _ hw hds hm hR => by have : ds = [] := hds; subst this; exact hR φ u w hm Step.refl hw⟩
  | .cons y r, md, hp, k, x, h => by
    rcases onOff_some (show onOff y (fun f args => f.on_fn fun f first cap => match f with
      | .func f => hd.d f (first.app (args.app cap)) md hp fun md hp => leaveM hd r md hp k
      | _ => none) (fun q => onDfd hp q fun hp => leaveM hd r md hp k) = some x from h) with ⟨f, args, e1, h1⟩ | ⟨q, e1, h1⟩
    rotate_left
    · subst e1
      obtain ⟨m, nx, rfl, hq, h2⟩ := onDfd_some h1
      obtain ⟨md2, hp2, h5, h6⟩ := leaveM_some hok h2
      refine ⟨md2, hp2, h5, fun φ B w ds u fn tmps R g1 hw hds hm hR => ?_⟩
      obtain ⟨g, ds', hg, e, hds'⟩ := hds
      subst e
      have hw' : WR φ B m nx w := hw
      obtain ⟨o, e2, h7⟩ := hw'.blk q _ g hq hg
      have h8 : o = .deferred (some []) := h7
      subst h8
      obtain ⟨s1, s2⟩ := hw'.put (y := .dfd false) (w' := w.putObj g.1 (.deferred none)) (o := .deferred none) hq rfl rfl hg rfl rfl rfl World.putObj_size (fun k hk => World.putObj_heap_other hk) (World.putObj_heap_same (hw'.lt q g hg)) rfl
      refine ⟨hm.run, .inl ⟨g.1, _, rfl, run_takeDeferred e2, ?_⟩⟩
      exact h6 φ B _ ds' u fn tmps R g1 s1 hds' hm fun χ u2 w2 t1 t2 t3 => hR χ u2 w2 t1 (s2.trans t2) t3
    subst e1
    obtain ⟨fn0, first, cap, e2, h2⟩ := AV.on_fn_some h1
    subst e2
    split at h2
    · rename_i fid
      obtain ⟨md1, hp1, h3, h4⟩ := hok.d fid _ md hp _ x h2
      obtain ⟨md2, hp2, h5, h6⟩ := leaveM_some hok h3
      refine ⟨md2, hp2, h5, fun φ B w ds u fn tmps R g1 hw hds hm hR => ?_⟩
      obtain ⟨us, ys, ars, ds', e, v1, v2, v3, hds'⟩ := hds
      subst e
      have hargs : VL φ (first.app (args.app cap)) ((us ++ ars) ++ ys).toList := by
        rw [Array.toList_append, Array.toList_append, List.append_assoc]
        exact VL.app v1 (VL.app v3 v2)
      obtain ⟨c1, c2⟩ := h4 φ B w _ u g1 hw hargs hm
      refine leavesX_cons hm.run (f := fid) (args := (us ++ ars) ++ ys) c1 (c2.mono fun e u' w' he => ?_)
      obtain ⟨⟨v, rfl⟩, ψ, q1, q2, q3⟩ := he
      exact h6 ψ B w' ds' (settle u') fn tmps R (g1.more q2.more) q3 (hds'.more q2.more) q1 fun χ u2 w2 s1 s2 s3 => hR χ u2 w2 s1 (q2.trans s2) s3
    · cases h2
end Go.Proofs.YtobaebpmdimljaaGreatDoor.Clo
end
