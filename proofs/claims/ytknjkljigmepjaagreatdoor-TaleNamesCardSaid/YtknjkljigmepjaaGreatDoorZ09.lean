/- Part 9 of a proof laid in parts, one behind the other; no condition of its own. -/
import Derived.Test.YtknjkljigmepjaaGreatDoorZ08
import Derived.Test.YtknjkljigmepjaaGreatDoorZ05
import Derived.Recover
import Derived.Lib.Bytealg
import GoSem.Extern.MapsClone
set_option linter.all false
section
namespace Go.Proofs.YtknjkljigmepjaaGreatDoor.Clo
open Go.RowKit
set_option linter.unusedVariables false
set_option linter.unusedSimpArgs false
set_option linter.constructorNameAsVariable false
variable [Tabs]
section
variable {P : Program} {G dt n : Nat} {ds : List (Option Nat)} {o : Oper}
theorem assert2_ok {x : Operand} {xT t : TypeId} {d : TypeDesc} {i : TypeInfo} {z : Value} (ho : o.op = .typeAssert x xT t true) (hu : P.underlying t = some d) (hd : ∀ m, d ≠ .interface m) (hi : P.info? t = some i) (hz : i.zero = some z) :
    PureOk P G dt n ds o (fun e t0 hp k => match (opd G dt n ds x).run e t0 with
      | .inil => k (.tu (.cons (ofConst z) (.cons (.b false) .nil))) hp
      | .ifc t' v => match Nat.beq t' t with
        | true => k (.tu (.cons v (.cons (.b true) .nil))) hp
        | false => k (.tu (.cons (ofConst z) (.cons (.b false) .nil))) hp
      | _ => none) :=
  .pure fun e t0 hp k r hr => by
    have hzv : ∀ w, (zeroValue t).run P w = .ok z w := fun w => by
      obtain ⟨b, w', q1, q2, q3⟩ := runs_zero (P := P) (w := w) (Q := fun b w' => b = z ∧ w' = w) hi hz ⟨rfl, rfl⟩
      rw [q1, q2, q3]
    have two : ∀ φ (y : AV) (u : Value) (b : Bool), VR φ y u → VR φ (.tu (.cons y (.cons (.b b) .nil))) (.tuple #[u, .bool b]) := fun φ y u b hy => ⟨#[u, .bool b], rfl, u, [.bool b], rfl, hy, .bool b, [], rfl, rfl, rfl⟩
    split at hr
    · rename_i h
      refine ⟨_, hr, fun φ a w hx => ?_⟩
      have hv := (hx x (by rw [ho]; simp [Op.operands, Call.operands]))
      rw [h] at hv
      have e1 : a.eval x = .nilIface := hv
      refine ⟨_, ?_, two φ _ z false (ofConst_ok φ z)⟩
      unfold execOp
      rw [ho]
      cases d <;> first | (exact absurd rfl (hd _)) | simp [Instr.typeAssert, run_underlying hu, e1, hzv]
    · rename_i t' v h
      split at hr
      · rename_i ht
        have ht' := Nat.eq_of_beq_eq_true ht
        subst ht'
        refine ⟨_, hr, fun φ a w hx => ?_⟩
        have hv := (hx x (by rw [ho]; simp [Op.operands, Call.operands]))
        rw [h] at hv
        obtain ⟨v', e1, e2⟩ := hv
        have e1' : a.eval x = .iface t' v' := e1
        refine ⟨_, ?_, two φ _ v' true e2⟩
        unfold execOp
        rw [ho]
        cases d <;> first | (exact absurd rfl (hd _)) | simp [Instr.typeAssert, run_underlying hu, e1']
      · rename_i ht
        have hne : t' ≠ t := fun e => by subst e; rw [Nat.beq_refl] at ht; cases ht
        refine ⟨_, hr, fun φ a w hx => ?_⟩
        have hv := (hx x (by rw [ho]; simp [Op.operands, Call.operands]))
        rw [h] at hv
        obtain ⟨v', e1, e2⟩ := hv
        have e1' : a.eval x = .iface t' v' := e1
        refine ⟨_, ?_, two φ _ z false (ofConst_ok φ z)⟩
        unfold execOp
        rw [ho]
        cases d <;> first | (exact absurd rfl (hd _)) | simp [Instr.typeAssert, run_underlying hu, e1', hne, hzv]
    · cases hr
theorem field_ok {t : TypeId} {x : Operand} {f : Nat} {fs : Array Field} {fd : Field} {i : TypeInfo} {agg : Bool} (ho : o.op = .field t x f) (hu : P.underlying t = some (.struct fs)) (hf : fs[f]? = some fd) (hi : P.info? fd.type = some i) (ha : aggT P fd.type = some agg) :
    PureOk P G dt n ds o (fun e t0 hp k => ((opd G dt n ds x).run e t0).on_ag fun cells => match agg with
        | false => cells.atR fd.offset fun v => k v hp
        | true => Option.rec (motive := fun _ => R) none (fun y => k (.ag y) hp) ((cells.drop fd.offset).takeO i.size)) :=
  .pure fun e t0 hp k r hr => by
    obtain ⟨cells, hl, h3⟩ := AV.on_ag_some hr
    have start : ∀ v, k v hp = some r → (∀ φ (xs : Array Value) (w : World), VL φ cells xs.toList → ∃ v', (part fd.type xs fd.offset).run P w = .ok v' w ∧ VR φ v v') → ∃ v, k v hp = some r ∧ ∀ φ (a : Act) w, OpsR G dt n ds φ e t0 a.eval o.op → ∃ v', (execOp a.eval o).run P w = .ok (.value v') w ∧ VR φ v v' := by
      intro v hk hp'
      refine ⟨v, hk, fun φ a w hx => ?_⟩
      obtain ⟨xs, e1, e3⟩ : ∃ xs : Array Value, a.eval x = .agg xs ∧ VL φ cells xs.toList := by have := (hx x (by rw [ho]; simp [Op.operands, Call.operands])); rw [hl] at this; exact this
      obtain ⟨v', h5, h6⟩ := hp' φ xs w e3
      refine ⟨v', ?_, h6⟩
      unfold execOp
      rw [ho]
      simp only [Instr.field, e1, asAgg, Sem.run_bind, Sem.run_pure, Result.andThen_ok, run_underlying hu, hf, h5]
    have hpart : ∀ (xs : Array Value) (w : World) (Q : Value → World → Prop), (if agg = true then Q (.agg (xs.extract fd.offset (fd.offset + i.size))) w else ∃ v, xs[fd.offset]? = some v ∧ Q v w) → Runs P (part fd.type xs fd.offset) w Q := by
      intro xs w Q h
      unfold part
      refine .bind (runs_isAgg ha ?_)
      cases agg with
      | true => exact .bind (runs_sizeOf hi (.pure h))
      | false =>
        obtain ⟨v, h5, h6⟩ := h
        show Runs P (match xs[fd.offset]? with | some v => Pure.pure v | none => stuck "part: no such cell") w Q
        rw [h5]
        exact .pure h6
    cases agg with
    | false =>
      obtain ⟨h4, h5⟩ := AV.atR_some _ h3
      refine start _ h5 fun φ xs w hv => ?_
      have hlen := VL.len hv
      have hget : xs.toList[fd.offset]? = some (xs.toList[fd.offset]'(by rw [hlen]; exact h4)) := List.getElem?_eq_getElem _
      obtain ⟨v', w', q1, q2, q3⟩ := hpart xs w (fun v' w' => w' = w ∧ VR φ (cells.at fd.offset) v') ⟨_, by rw [← Array.getElem?_toList]; exact hget, rfl, VL.at hv hget⟩
      subst q2
      exact ⟨v', q1, q3⟩
    | true =>
      cases ht : (cells.drop fd.offset).takeO i.size with
      | none => rw [ht] at h3; cases h3
      | some y =>
        rw [ht] at h3
        obtain ⟨h4, h5⟩ := AV.takeO_some i.size ht
        refine start (.ag y) h3 fun φ xs w hv => ?_
        obtain ⟨v', w', q1, q2, q3⟩ := hpart xs w (fun v' w' => w' = w ∧ VR φ (.ag y) v') ⟨rfl, _, rfl, by
          rw [h5, Array.toList_extract]
          have := VL.take i.size (VL.drop (fd.offset) hv)
          simpa [List.extract, Nat.add_sub_cancel_left] using this⟩
        subst q2
        exact ⟨v', q1, q3⟩
theorem indexAg_ok {t el : TypeId} {len : Nat} {x y : Operand} {i : TypeInfo} {agg : Bool} (ho : o.op = .index t x y) (hu : P.underlying t = some (.array len el)) (hi : P.info? el = some i) (ha : aggT P el = some agg) :
    PureOk P G dt n ds o (fun e t0 hp k => ((opd G dt n ds x).run e t0).on_ag fun cells => ((opd G dt n ds y).run e t0).on_i fun _ j => onNat j fun j => match Nat.blt j len with
      | true => (match agg with
        | false => cells.atR (Nat.mul j i.size) fun v => k v hp
        | true => Option.rec (motive := fun _ => R) none (fun y => k (.ag y) hp) ((cells.drop (Nat.mul j i.size)).takeO i.size))
      | false => none) :=
  .pure fun e t0 hp k r hr => by
    obtain ⟨cells, hl, h1⟩ := AV.on_ag_some hr
    obtain ⟨kd, j, hj, h2⟩ := AV.on_i_some h1
    obtain ⟨m, rfl, h3⟩ := onNat_some h2
    split at h3
    · rename_i hlt
      have hlt' : m < len := by simpa [Nat.blt_eq] using hlt
      have start : ∀ v, k v hp = some r → (∀ φ (xs : Array Value) (w : World), VL φ cells xs.toList → ∃ v', (part el xs (m * i.size)).run P w = .ok v' w ∧ VR φ v v') → ∃ v, k v hp = some r ∧ ∀ φ (a : Act) w, OpsR G dt n ds φ e t0 a.eval o.op → ∃ v', (execOp a.eval o).run P w = .ok (.value v') w ∧ VR φ v v' := by
        intro v hk hp'
        refine ⟨v, hk, fun φ a w hx => ?_⟩
        obtain ⟨xs, e1, e3⟩ : ∃ xs : Array Value, a.eval x = .agg xs ∧ VL φ cells xs.toList := by have := (hx x (by rw [ho]; simp [Op.operands, Call.operands])); rw [hl] at this; exact this
        have e2 : a.eval y = .int kd (m : Int) := by have := (hx y (by rw [ho]; simp [Op.operands, Call.operands])); rw [hj] at this; exact this
        obtain ⟨v', h5, h6⟩ := hp' φ xs w e3
        refine ⟨v', ?_, h6⟩
        have hso : (sizeOf el).run P w = .ok i.size w := by
          obtain ⟨b, w', q1, q2, q3⟩ := runs_sizeOf (P := P) (w := w) (Q := fun b w' => b = i.size ∧ w' = w) hi ⟨rfl, rfl⟩
          rw [q1, q2, q3]
        unfold execOp
        rw [ho]
        simp only [Instr.index, e1, e2, asIntOf, Sem.run_bind, Sem.run_pure, Result.andThen_ok, run_underlying hu]
        rw [if_pos ⟨Int.natCast_nonneg m, by omega⟩]
        simp only [Sem.run_bind, hso, Result.andThen_ok, Int.toNat_natCast, h5, Sem.run_pure]
      have hpart : ∀ (xs : Array Value) (w : World) (Q : Value → World → Prop), (if agg = true then Q (.agg (xs.extract (m * i.size) (m * i.size + i.size))) w else ∃ v, xs[m * i.size]? = some v ∧ Q v w) → Runs P (part el xs (m * i.size)) w Q := by
        intro xs w Q h
        unfold part
        refine .bind (runs_isAgg ha ?_)
        cases agg with
        | true => exact .bind (runs_sizeOf hi (.pure h))
        | false =>
          obtain ⟨v, h5, h6⟩ := h
          show Runs P (match xs[m * i.size]? with | some v => Pure.pure v | none => stuck "part: no such cell") w Q
          rw [h5]
          exact .pure h6
      cases agg with
      | false =>
        obtain ⟨h4, h5⟩ := AV.atR_some _ h3
        refine start _ h5 fun φ xs w hv => ?_
        have hlen := VL.len hv
        have hget : xs.toList[m * i.size]? = some (xs.toList[m * i.size]'(by rw [hlen]; exact h4)) := List.getElem?_eq_getElem _
        obtain ⟨v', w', q1, q2, q3⟩ := hpart xs w (fun v' w' => w' = w ∧ VR φ (cells.at (m * i.size)) v') ⟨_, by rw [← Array.getElem?_toList]; exact hget, rfl, VL.at hv hget⟩
        subst q2
        exact ⟨v', q1, q3⟩
      | true =>
        cases ht : (cells.drop (Nat.mul m i.size)).takeO i.size with
        | none => rw [ht] at h3; cases h3
        | some y =>
          rw [ht] at h3
          obtain ⟨h4, h5⟩ := AV.takeO_some i.size ht
          refine start (.ag y) h3 fun φ xs w hv => ?_
          obtain ⟨v', w', q1, q2, q3⟩ := hpart xs w (fun v' w' => w' = w ∧ VR φ (.ag y) v') ⟨rfl, _, rfl, by
            rw [h5, Array.toList_extract]
            have := VL.take i.size (VL.drop (m * i.size) hv)
            simpa [List.extract, Nat.add_sub_cancel_left] using this⟩
          subst q2
          exact ⟨v', q1, q3⟩
    · cases h3
theorem buildSl_ok {t el : TypeId} {len : Nat} {parts : Array (Nat × Operand)} {i : TypeInfo} {z : Value} {zc : AV} {L : List (Nat × Nat × GV)} (ho : o.op = .buildSlice t len parts)
    (hu : P.underlying t = some (.slice el)) (hi : P.info? el = some i) (hz : i.zero = some z) (hzs : z.cells.size = i.size) (hzc : (ofConst z).cellsO = some zc) (h24 : len * i.size ≤ 2 ^ 24)
    (hL : plan G dt n ds (fun x => some (x * i.size, i.size)) parts.toList = some L) :
    MakeOk P G dt n ds o (fun e t0 hp k => fillR L e t0 (madeA zc len) fun c => newF el c hp fun r hp => k (.sl r 0 len (some len)) hp) := by
  intro e t0 hp k r hr
  obtain ⟨cells', h1, h2⟩ := fillR_some hL hr
  obtain ⟨m, nx, e', hl, h3⟩ := newF_some h1
  refine ⟨m, nx, _, _, e', hl, rfl, h3, fun φ a w g1 g2 => ?_⟩
  generalize hzz : (Array.range (len * i.size)).map (fun j => z.cells[j % z.cells.size]!) = zs
  have hzl : VL φ (madeA zc len) zs.toList := by
    obtain ⟨h7, _⟩ := AV.cellsO_ok hzc (ofConst_ok φ z)
    have : zs = madeCells z.cells (len * z.cells.size) := by rw [← hzz, ← hzs]; rfl
    rw [this, made_list]
    exact madeA_ok h7 len
  obtain ⟨ca', f1, f2, f3⟩ := h2 φ a.eval zs (parts_of (by rw [ho]; rfl) g2) hzl
  have hf : Instr.fill (fun x => some (x * i.size, i.size)) zs (parts.map fun (i, x) => (i, a.eval x)).toList = some ca' := by
    rw [Array.toList_map]; simpa using f1
  refine ⟨.slice (some ⟨w.heap.size, 0, none⟩) len len, _, _, _, ?_, .alloc _ _, row_says f2, fun ψ _ hn => ⟨_, len, hn, rfl, Nat.le_refl _, fun _ h => by cases h; rfl⟩⟩
  have hb : ∀ parts : Array (Nat × Value), Instr.fill (fun x => some (x * i.size, i.size)) zs parts.toList = some ca' → (Instr.buildSlice t len parts).run P w = .ok (.slice (some ⟨w.heap.size, 0, none⟩) len len) (w.alloc (.cells ca' el)) := by
    intro parts hf
    have h24' : ¬ (2 ^ 24 < len * i.size) := by omega
    by_cases h0 : len * i.size = 0
    · have hzs0 : zs = #[] := by rw [← hzz, h0]; simp
      subst hzs0
      have hm : ∀ f : Nat → Value, Array.map f (Array.range 0) = #[] := fun f => by simp
      simp [Instr.buildSlice, run_underlying hu, sizeOf, typeInfo, hi, h0, hm, hf, newRow]
    · subst hzz
      have h24'' : ¬ (16777216 < len * i.size) := by omega
      simp [Instr.buildSlice, run_underlying hu, sizeOf, typeInfo, hi, h0, h24'', zeroValue, hz, hf, newRow]
  unfold execOp
  simp only [ho, Sem.run_bind, hb _ hf, Result.andThen_ok]
  rfl
theorem panic_ok {x : Operand} (ho : o.op = .panic x) : OpOk P G dt n ds o (.mk fun _ e t hp _ kp => ((opd G dt n ds x).run e t).on_ifc fun ty v => kp (.ifc ty v) hp) := by
  intro hd hok e t hp k kp r hr
  obtain ⟨ty, v, hv, h1⟩ := AV.on_ifc_some (show ((opd G dt n ds x).run e t).on_ifc (fun ty v => kp (.ifc ty v) hp) = some r from hr)
  refine .inr ⟨_, hp, h1, fun φ B a w g1 g2 g3 K Q hQ => ?_⟩
  have hx := g2 x (by rw [ho]; simp [Op.operands])
  rw [hv] at hx
  obtain ⟨u, e1, hu⟩ := hx
  have e1' : a.eval x = .iface ty u := e1
  have hrun : (execOp a.eval o).run P w = .halt (.panic (.iface ty u)) w := by
    unfold execOp
    rw [ho]
    simp [e1', Instr.panic, goPanic, Sem.run]
  refine .inl ?_
  unfold Oper.wp
  rw [hrun]
  exact hQ (.iface ty u) w ⟨φ, ⟨u, rfl, hu⟩, Step.refl, g3⟩
end
def notIfc : TypeDesc → Bool
  | .interface _ => false
  | _ => true
theorem notIfc_ok {d : TypeDesc} (h : notIfc d = true) : ∀ ms, d ≠ .interface ms := fun ms e => by subst e; cases h
abbrev OD (P : Program) (G dt n : Nat) (ds : List (Option Nat)) (o : Oper) := Option { q : Kd × OM // OmOk P G dt n ds o q }
section
variable {P : Program} {G dt n : Nat} {ds : List (Option Nat)} {o : Oper} {F : VM}
noncomputable def odP (h : PureOk P G dt n ds o F) : OD P G dt n ds o := some ⟨(.pure, .mk fun _ e t hp k _ => F e t hp k), F, rfl, h⟩
noncomputable def odS (h : StillOk P G dt n ds o F) : OD P G dt n ds o := some ⟨(.still, .mk fun _ e t hp k _ => F e t hp k), F, rfl, h⟩
noncomputable def odM (h : MakeOk P G dt n ds o F) : OD P G dt n ds o := some ⟨(.make, .mk fun _ e t hp k _ => F e t hp k), F, rfl, h⟩
noncomputable def odV (h : ValOk P G dt n ds o F) : OD P G dt n ds o := some ⟨(.eff, .mk fun _ e t hp k _ => F e t hp k), h.op⟩
noncomputable def odE {m : OM} (h : OpOk P G dt n ds o m) : OD P G dt n ds o := some ⟨(.eff, m), h⟩
theorem callB {c : Call} {b : Builtin} {ars : List Operand} {ts : List TypeId} (ho : o.op = .call c) (h1 : c.callee = .builtin b) (h2 : c.args.toList = ars) (h3 : c.argTypes.toList = ts) : o.op = .call { callee := .builtin b, args := ars.toArray, argTypes := ts.toArray } := by
  obtain ⟨cal, args, tys⟩ := c
  simp only at h1 h2 h3
  subst h1 h2 h3
  rw [ho]
theorem callV {c : Call} {f : Operand} (ho : o.op = .call c) (h1 : c.callee = .value f) : o.op = .call { callee := .value f, args := c.args, argTypes := c.argTypes } := by
  obtain ⟨cal, args, tys⟩ := c
  simp only at h1
  subst h1
  rw [ho]
end
theorem callI {o : Oper} {c : Call} {x : Operand} {nm : String} (ho : o.op = .call c) (h1 : c.callee = .invoke x nm) : o.op = .call { callee := .invoke x nm, args := c.args, argTypes := c.argTypes } := by
  obtain ⟨cal, args, tys⟩ := c
  simp only at h1
  subst h1
  rw [ho]
noncomputable def odBuiltin (P : Program) (G dt n : Nat) (ds : List (Option Nat)) (o : Oper) (c : Call) (ho : o.op = .call c) (b : Builtin) (hb : c.callee = .builtin b) : OD P G dt n ds o :=
  match h2 : c.args.toList, h3 : c.argTypes.toList with
  | [x], [t] => match b, hb with
    | .len, hb => match hu : P.underlying t with
      | some .string => odP (lenS_ok (callB ho hb h2 h3) hu)
      | some (.slice _) => odP (lenV_ok (callB ho hb h2 h3) hu)
      | _ => none
    | .cap, hb => match hu : P.underlying t with
      | some (.slice _) => odP (cap_ok (callB ho hb h2 h3) hu)
      | _ => none
    | .unsafeSliceData, hb => odP (sliceData_ok (callB ho hb h2 h3))
    | .close, hb => odV (close_ok (callB ho hb h2 h3))
    | .clear, hb => match hu : P.underlying t with
      | some (.slice el) => match hi : P.info? el with
        | some i => match hz : i.zero with
          | some z => match hzc : (ofConst z).cellsO with
            | some zc => if hzs : z.cells.size = i.size then odV (clear_ok (callB ho hb h2 h3) hu hi hz hzs hzc) else none
            | none => none
          | none => none
        | none => none
      | _ => none
    | _, _ => none
  | [x, y], [t, t'] => match b, hb with
    | .append, hb => match hu : P.underlying t with
      | some (.slice e) => match hi : P.info? e with
        | some i => match hz : i.zero with
          | some z => if hzs : z.cells.size = i.size then
              (match hk : P.underlying t' with
              | some (.slice e') => odV (append_ok (callB ho hb h2 h3) hu hi hz hzs (.inl ⟨e', hk⟩))
              | some .string => odV (append_ok (callB ho hb h2 h3) hu hi hz hzs (.inr hk))
              | _ => none)
            else none
          | none => none
        | none => none
      | _ => none
    | .copy, hb => match hu : P.underlying t with
      | some (.slice e) => match hi : P.info? e with
        | some i => odV (copy_ok (callB ho hb h2 h3) hu hi)
        | none => none
      | _ => none
    | .min, hb => odP (min_ok (callB ho hb h2 h3))
    | .max, hb => odP (max_ok (callB ho hb h2 h3))
    | .unsafeString, hb => match hu : P.underlying t with
      | some (.pointer e) => if hc : P.cellsOf e = 1 then odV (unsafeString_ok (callB ho hb h2 h3) hu hc) else none
      | _ => none
    | _, _ => none
  | [x, y, u], [t, t', t''] => match b, hb with
    | .min, hb => odP (min3_ok (callB ho hb h2 h3))
    | .max, hb => odP (max3_ok (callB ho hb h2 h3))
    | _, _ => none
  | _, _ => none
noncomputable def odConvert (P : Program) (G dt n : Nat) (ds : List (Option Nat)) (o : Oper) (s t : TypeId) (x : Operand) (ho : o.op = .convert s t x) : OD P G dt n ds o :=
  match hs : P.underlying s, ht : P.underlying t with
  | some d, some (.int kd) => odP (convInt_ok ho hs ht)
  | some (.slice el), some .string => match he : P.underlying el with
    | some (.int .u8) => odS (convText_ok ho hs he ht)
    | _ => none
  | some .string, some (.slice el) => match he : P.underlying el with
    | some (.int .u8) => odM (convBytes_ok ho hs ht he)
    | _ => none
  | some (.pointer te), some .unsafePointer => match hi : P.info? te with
    | some i => if hz : i.size ≠ 0 then odS (toUnsafe_ok ho hs ht hi hz) else none
    | none => none
  | some .unsafePointer, some (.pointer u) => match hi : P.info? u with
    | some i => odS (fromUnsafe_ok ho hs ht hi)
    | none => none
  | _, _ => none
noncomputable def odBin (P : Program) (G dt n : Nat) (ds : List (Option Nat)) (o : Oper) (op : BinOp) (t yt : TypeId) (x y : Operand) (ho : o.op = .binOp op t x y yt) : OD P G dt n ds o :=
  match hu : P.underlying t with
  | some (.struct fs) => match hs : P.stoodInHeld t, hm : P.eqGuardType P.depth t, hL : plainF P fs.toList with
    | false, false, some L => odP (binS_ok ho hu hs hm hL)
    | _, _, _ => none
  | some (.pointer e) => match hi : P.info? e with
    | some i => odP (binP_ok ho hu hi)
    | none => none
  | _ => odP (bin_ok ho)
noncomputable def odBuild (P : Program) (G dt n : Nat) (ds : List (Option Nat)) (o : Oper) (t : TypeId) (parts : Array (Nat × Operand)) (ho : o.op = .build t parts) : OD P G dt n ds o :=
  match hit : P.info? t with
  | some it => match hz : it.zero with
    | some z => match hzc : (ofConst z).cellsO with
      | some zc => match hu : P.underlying t with
        | some (.struct fields) => match hpl : fields.toList.mapM (fun f => (P.info? f.type).map fun i => (f.offset, i.size)) with
          | some places => match hL : plan G dt n ds (fun x => places[x]?) parts.toList with
            | some L => odP (buildS_ok ho hu hit hz hzc hpl hL)
            | none => none
          | none => none
        | some (.array len el) => match hi : P.info? el with
          | some i => match hL : plan G dt n ds (fun x => some (x * i.size, i.size)) parts.toList with
            | some L => odP (buildA_ok ho hu hit hz hzc hi hL)
            | none => none
          | none => none
        | _ => none
      | none => none
    | none => none
  | none => none
noncomputable def odSlice (P : Program) (G dt n : Nat) (ds : List (Option Nat)) (o : Oper) (t : TypeId) (x : Operand) (low high : Option Operand) (ho : o.op = .slice t x low high none) : OD P G dt n ds o :=
  match hu : P.underlying t with
  | some .string => odP (sliceS_ok ho hu)
  | some (.slice el) => match hi : P.info? el with
    | some i => odS (sliceO_ok ho hu hi)
    | none => none
  | some (.array len el) => match hi : P.info? el with
    | some i => odP (sliceP_ok ho hu hi)
    | none => none
  | _ => none
noncomputable def odSlice3 (P : Program) (G dt n : Nat) (ds : List (Option Nat)) (o : Oper) (t : TypeId) (x : Operand) (low : Option Operand) (h m : Operand) (ho : o.op = .slice t x low (some h) (some m)) : OD P G dt n ds o :=
  match hu : P.underlying t with
  | some (.slice el) => match hi : P.info? el with
    | some i => odP (sliceV3_ok ho hu hi)
    | none => none
  | _ => none
noncomputable def odAddr (P : Program) (G dt n : Nat) (ds : List (Option Nat)) (o : Oper) (t : TypeId) (x y : Operand) (ho : o.op = .indexAddr t x y) : OD P G dt n ds o :=
  match hu : P.underlying t with
  | some (.slice el) => match hi : P.info? el with
    | some i => odP (indexAddrG_ok ho hu hi)
    | none => none
  | some (.array len el) => match hi : P.info? el with
    | some i => odP (indexAddrA_ok ho hu hi)
    | none => none
  | _ => none
noncomputable def odBuildSlice (P : Program) (G dt n : Nat) (ds : List (Option Nat)) (o : Oper) (t : TypeId) (len : Nat) (parts : Array (Nat × Operand)) (ho : o.op = .buildSlice t len parts) : OD P G dt n ds o :=
  match hu : P.underlying t with
  | some (.slice el) => match hi : P.info? el with
    | some i => match hz : i.zero with
      | some z => match hzc : (ofConst z).cellsO with
        | some zc => if hzs : z.cells.size = i.size then (if h24 : len * i.size ≤ 2 ^ 24 then
            (match hL : plan G dt n ds (fun x => some (x * i.size, i.size)) parts.toList with
            | some L => odM (buildSl_ok ho hu hi hz hzs hzc h24 hL)
            | none => none) else none) else none
        | none => none
      | none => none
    | none => none
  | _ => none
def twoOf (fs : Array Field) : Option (Field × Field) := match fs.toList with
  | [a, b] => some (a, b)
  | _ => none
theorem twoOf_eq {fs : Array Field} {f0 f1 : Field} (h : twoOf fs = some (f0, f1)) : fs = #[f0, f1] := by
  unfold twoOf at h
  split at h
  · rename_i a b hl
    simp only [Option.some.injEq, Prod.mk.injEq] at h
    obtain ⟨rfl, rfl⟩ := h
    cases fs
    simp_all
  · cases h
noncomputable def odMap (P : Program) (G dt n : Nat) (ds : List (Option Nat)) (o : Oper) (mT : TypeId) (x y u : Operand) (ho : o.op = .mapUpdate mT x y u ∨ o.op = .insert mT x y u) : OD P G dt n ds o :=
  match hu : P.underlying mT with
  | some (.map kt el) => match hk : P.underlying kt with
    | some (.struct fs) => match h2 : twoOf fs with
      | some (f0, f1) => if ht : twoB P kt f0 f1 = true then odV (update2_ok ho hu (by rw [hk, twoOf_eq h2]) ht) else none
      | none => none
    | some d => odV (update_ok ho hu hk)
    | none => none
  | _ => none
noncomputable def odAll (P : Program) (G dt n : Nat) (ds : List (Option Nat)) (o : Oper) : OD P G dt n ds o :=
  match ho : o.op with
  | .move x => odP (move_ok (.inl ho))
  | .assign x => odP (move_ok (.inr ho))
  | .pick c x y => odP (pick_ok ho)
  | .alloc t => match hi : P.info? t with
    | some i => match hz : i.zero with
      | some z => match hc : (ofConst z).cellsO with
        | some c => odM (alloc_ok ho hi hz hc)
        | none => none
      | none => none
    | none => none
  | .box t x => odM (box_ok ho)
  | .build t parts => odBuild P G dt n ds o t parts ho
  | .buildSlice t len parts => odBuildSlice P G dt n ds o t len parts ho
  | .insert t m k v => odMap P G dt n ds o t m k v (.inr ho)
  | .mapUpdate t m k v => odMap P G dt n ds o t m k v (.inl ho)
  | .load t x => match ha : aggT P t, hi : P.info? t with
    | some agg, some i => odS (load_ok ho ha hi)
    | _, _ => none
  | .store t x y => match hi : P.info? t with
    | some i => odV (store_ok ho hi)
    | none => none
  | .nilCheck x => odP (nilCheck_ok ho)
  | .binOp op t x y yt => odBin P G dt n ds o op t yt x y ho
  | .unOp .not t x => odP (not_ok ho)
  | .convert s t x => odConvert P G dt n ds o s t x ho
  | .makeInterface t x => match hd : P.underlying t with
    | some d => match hn : notIfc d with
      | true => odP (makeInterface_ok ho hd (notIfc_ok hn))
      | false => none
    | none => none
  | .makeFunc f xs ys => odP (makeFunc_ok ho)
  | .makeMap t none => odM (makeMap_ok ho)
  | .makeChan t x => match hu : P.underlying t with
    | some (.chan dir el) => match hi : P.info? el with
      | some i => odM (makeChan_ok ho hu hi)
      | none => none
    | _ => none
  | .makeSlice t x y => match hu : P.underlying t with
    | some (.slice el) => match hi : P.info? el with
      | some i => match hz : i.zero with
        | some z => match hzc : (ofConst z).cellsO with
          | some zc => if hzs : z.cells.size = i.size then odM (makeSlice_ok ho hu hi hz hzs hzc) else none
          | none => none
        | none => none
      | none => none
    | _ => none
  | .slice t x low high none => odSlice P G dt n ds o t x low high ho
  | .slice t x low (some h) (some m) => odSlice3 P G dt n ds o t x low h m ho
  | .fieldAddr s x f => match hs : P.underlying s with
    | some (.struct fs) => match hf : fs[f]? with
      | some fd => match hi : P.info? fd.type with
        | some i => if hz : i.size ≠ 0 then odP (fieldAddr_ok ho hs hf hi hz) else none
        | none => none
      | none => none
    | _ => none
  | .indexAddr t x y => odAddr P G dt n ds o t x y ho
  | .field t x f => match hu : P.underlying t with
    | some (.struct fs) => match hf : fs[f]? with
      | some fd => match hi : P.info? fd.type, ha : aggT P fd.type with
        | some i, some agg => odP (field_ok ho hu hf hi ha)
        | _, _ => none
      | none => none
    | _ => none
  | .index t x y => match hu : P.underlying t with
    | some .string => odP (indexS_ok ho hu)
    | some (.array len el) => match hi : P.info? el, ha : aggT P el with
      | some i, some agg => odP (indexAg_ok ho hu hi ha)
      | _, _ => none
    | _ => none
  | .lookup mT x y ok => match hu : P.underlying mT with
    | some (.map kt el) => match hk : P.underlying kt, hi : P.info? el with
      | some (.struct fs), some i => match hz : i.zero, h2 : twoOf fs with
        | some z, some (f0, f1) => if ht : twoB P kt f0 f1 = true then odS (lookup2_ok ho hu (by rw [hk, twoOf_eq h2]) ht hi hz) else none
        | _, _ => none
      | some d, some i => match hz : i.zero with
        | some z => odS (lookup_ok ho hu hk hi hz)
        | none => none
      | _, _ => none
    | _ => none
  | .range t x => match hu : P.underlying t with
    | some .string => odM (rangeS_ok ho hu)
    | _ => none
  | .next x true => odV (nextS_ok ho)
  | .typeAssert x xT t false => match hu : P.underlying t with
    | some d => match hn : notIfc d with
      | true => odP (assert_ok ho hu (notIfc_ok hn))
      | false => none
    | none => none
  | .typeAssert x xT t true => match hu : P.underlying t, hi : P.info? t with
    | some d, some i => match hn : notIfc d, hz : i.zero with
      | true, some z => odP (assert2_ok ho hu (notIfc_ok hn) hi hz)
      | _, _ => none
    | _, _ => none
  | .extract x j => odP (extract_ok ho)
  | .panic x => odE (panic_ok ho)
  | .call c => match hc : c.callee with
    | .value f => odE (call_ok (callV ho hc))
    | .builtin b => odBuiltin P G dt n ds o c ho b hc
    | .invoke x nm => odE (invoke_ok (callI ho hc))
  | _ => none
end Go.Proofs.YtknjkljigmepjaaGreatDoor.Clo
end
section
namespace Go.Proofs.YtknjkljigmepjaaGreatDoor.Clo
open Go.RowKit
set_option linter.unusedVariables false
set_option linter.unusedSimpArgs false
set_option linter.constructorNameAsVariable false
variable [Tabs]
theorem loadF_some {P : Program} {t : TypeId} {agg : Bool} {i : TypeInfo} (ha : aggT P t = some agg) (hi : P.info? t = some i) {b : Id} {q : Nat} {hp : HP} {k : KV} {x : AV × HP} (h : loadF agg i.size b q hp k = some x) :
    ∃ v, k v hp = some x ∧ ∀ φ w g, RH φ hp w → φ b = some g → Runs P (loadVar t ⟨g.1, g.2.2 + q, none⟩) w fun v' w' => w' = w ∧ VR φ v v' := by
  cases hp with
  | mk m nx =>
  obtain ⟨t1, gr, fz, ro, cells, hm, h2⟩ := onRow_some (show onRow m b _ = some x from h)
  cases agg with
  | false =>
    obtain ⟨h3, h4⟩ := AV.atR_some q h2
    refine ⟨_, h4, fun φ w g hw hg => ?_⟩
    obtain ⟨v', h5, h6⟩ := RW.cell hw hm hg h3
    unfold loadVar
    exact .bind (runs_isAgg ha (runs_load h5 ⟨rfl, h6⟩))
  | true =>
    cases ht : (cells.drop q).takeO i.size with
    | none => simp only [ht] at h2; cases h2
    | some y =>
      simp only [ht] at h2
      obtain ⟨h3, h4⟩ := AV.takeO_some i.size ht
      refine ⟨.ag y, h2, fun φ w g hw hg => ?_⟩
      have hlen : q + i.size ≤ cells.len ∨ i.size = 0 := by
        rcases Nat.eq_zero_or_pos i.size with h0 | h0
        · exact .inr h0
        · have := AV.drop_len q cells (by omega)
          exact .inl (by omega)
      unfold loadVar
      refine .bind (runs_isAgg ha (.bind (runs_sizeOf hi (.bind ?_))))
      rcases hlen with hlen | h0
      · obtain ⟨vs, h5, h6, _⟩ := RW.cells (P := P) (show RW φ m w from hw) hm hg hlen
        exact .of h5 (.pure ⟨rfl, vs.toArray, rfl, by rw [h4]; exact h6⟩)
      · rw [h0] at h4 ⊢
        subst h4
        exact .of (a := #[]) (w' := w) rfl (.pure ⟨rfl, #[], rfl, rfl⟩)
inductive QM where | mk (f : Tr → HP → (AV → R) → R)
noncomputable def QM.run (q : QM) : Tr → HP → (AV → R) → R := QM.rec (fun f => f) q
section
variable (P : Program) (dt n : Nat)
noncomputable def resL : List ResultVar → QM
  | [] => .mk fun _ _ k => k .nil
  | .tmp d :: r => match Nat.blt d n with
    | true => let q := resL r; let p := path dt d; .mk fun t hp k => q.run t hp fun l => k (.cons (getT p t) l)
    | false => .mk fun _ _ _ => none
  | .cell a ty :: r => match Nat.blt a n, aggT P ty, P.info? ty with
    | true, some agg, some i => let q := resL r; let p := path dt a; let sz := i.size; .mk fun t hp k => (getT p t).on_p fun b o => loadF agg sz b o hp fun v _ => q.run t hp fun l => k (.cons v l)
    | _, _, _ => .mk fun _ _ _ => none
noncomputable def oneOf (l : AV) (k : AV → R) : R := match l with
  | .cons v .nil => k v
  | l => k (.tu l)
variable {P dt n}
def resOne (tmps : Array Value) : ResultVar → Sem Value
  | .tmp t => pure (tmps.getD t undef)
  | .cell a t => do loadVar t (← asAddr (tmps.getD a undef))
theorem resL_some {lo : Nat → Bool} : ∀ {rs : List ResultVar} {t : Tr} {hp : HP} {k : AV → R} {x : AV × HP}, (resL P dt n rs).run t hp k = some x → ∃ l, k l = some x ∧ ∀ {sts : List Site} φ (B : Bse sts) (a : Act) w, FR φ dt n lo t a → WH φ B hp w →
    ∃ vs : List Value, VL φ l vs ∧ vs.length = rs.length ∧ ∀ (i : Nat) (rv : ResultVar), rs[i]? = some rv → ∃ v, vs[i]? = some v ∧ (resOne a.tmps rv).run P w = .ok v w
  | [], t, hp, k, x, h => ⟨.nil, h, fun φ B a w _ _ => ⟨[], rfl, rfl, fun i rv hi => by simp at hi⟩⟩
  | .tmp d :: r, t, hp, k, x, h => by
    unfold resL at h
    split at h
    · rename_i hd
      have hd' : d < n := by simpa [Nat.blt_eq] using hd
      obtain ⟨l, h1, h2⟩ := resL_some (lo := lo) (show (resL P dt n r).run t hp _ = some x from h)
      refine ⟨_, h1, fun φ B a w hf hw => ?_⟩
      obtain ⟨vs, v1, v2, v3⟩ := h2 φ B a w hf hw
      refine ⟨a.tmps.getD d undef :: vs, ⟨_, _, rfl, hf.at' d hd', v1⟩, by simp [v2], fun i rv hi => ?_⟩
      cases i with
      | zero => simp at hi; subst hi; exact ⟨_, rfl, rfl⟩
      | succ i => exact v3 i rv (by simpa using hi)
    · cases h
  | .cell a0 ty :: r, t, hp, k, x, h => by
    unfold resL at h
    split at h
    · rename_i agg i hd ha hi
      have hd' : a0 < n := by simpa [Nat.blt_eq] using hd
      obtain ⟨b, o, hb, h1⟩ := AV.on_p_some (show (getT (path dt a0) t).on_p (fun b o => loadF agg i.size b o hp fun v _ => (resL P dt n r).run t hp fun l => k (.cons v l)) = some x from h)
      obtain ⟨v, h2, h3⟩ := loadF_some ha hi h1
      obtain ⟨l, h4, h5⟩ := resL_some (lo := lo) h2
      refine ⟨_, h4, fun φ B a w hf hw => ?_⟩
      obtain ⟨vs, v1, v2, v3⟩ := h5 φ B a w hf hw
      have hv := hf.at' a0 hd'
      rw [hb] at hv
      obtain ⟨g, hg, e1⟩ := hv
      obtain ⟨v', w', e2, rfl, e3⟩ := h3 φ w g (WR.rw hw) hg
      refine ⟨v' :: vs, ⟨_, _, rfl, e3, v1⟩, by simp [v2], fun j rv hj => ?_⟩
      cases j with
      | zero =>
        simp at hj
        subst hj
        refine ⟨v', rfl, ?_⟩
        unfold resOne
        rw [Sem.run_bind, e1]
        simp only [asAddr, Sem.run_pure, Result.andThen_ok]
        exact e2
      | succ j => exact v3 j rv (by simpa using hj)
    · cases h
theorem results_run {fn : Func} {tmps : Array Value} {w : World} {vs : List Value} (h4 : fn.results.toList.length ≤ 5) (hn : vs.length = fn.results.toList.length) (h : ∀ (i : Nat) (rv : ResultVar), fn.results.toList[i]? = some rv → ∃ v, vs[i]? = some v ∧ (resOne tmps rv).run P w = .ok v w) :
    (results fn tmps).run P w = .ok (if h : vs.toArray.size = 1 then vs.toArray[0] else .tuple vs.toArray) w := by
  have hrun : ∀ rs : List ResultVar, fn.results = rs.toArray → rs.length ≤ 5 → (∀ (i : Nat) (rv : ResultVar), rs[i]? = some rv → ∃ v, vs[i]? = some v ∧ (resOne tmps rv).run P w = .ok v w) → vs.length = rs.length →
      (results fn tmps).run P w = .ok (if h : vs.toArray.size = 1 then vs.toArray[0] else .tuple vs.toArray) w := by
    intro rs e hle hrs hlen
    have one : ∀ (i : Nat) (rv : ResultVar) (v : Value), rs[i]? = some rv → vs[i]? = some v → (resOne tmps rv).run P w = .ok v w := fun i rv v h1 h2 => by
      obtain ⟨v', h3, h4⟩ := hrs i rv h1
      rw [h2] at h3
      cases h3
      exact h4
    have unf : results fn tmps = (do
        let us ← fn.results.mapM (resOne tmps)
        pure (if h : us.size = 1 then us[0] else .tuple us)) := by
      unfold results
      have : (fun (x : ResultVar) => match x with
        | .tmp t => (pure (tmps.getD t undef) : Sem Value)
        | .cell a t => do loadVar t (← asAddr (tmps.getD a undef))) = resOne tmps := by
          funext x
          cases x <;> rfl
      rw [← this]
      rfl
    rw [unf, e]
    match rs, vs, hle, hlen, one with
    | [], [], _, _, _ => simp
    | [r1], [v1], _, _, one => simp [one 0 r1 v1 rfl rfl]
    | [r1, r2], [v1, v2], _, _, one => simp [one 0 r1 v1 rfl rfl, one 1 r2 v2 rfl rfl]
    | [r1, r2, r3], [v1, v2, v3], _, _, one => simp [one 0 r1 v1 rfl rfl, one 1 r2 v2 rfl rfl, one 2 r3 v3 rfl rfl]
    | [r1, r2, r3, r4], [v1, v2, v3, v4], _, _, one => simp [one 0 r1 v1 rfl rfl, one 1 r2 v2 rfl rfl, one 2 r3 v3 rfl rfl, one 3 r4 v4 rfl rfl]
    | [r1, r2, r3, r4, r5], [v1, v2, v3, v4, v5], _, _, one => simp [one 0 r1 v1 rfl rfl, one 1 r2 v2 rfl rfl, one 2 r3 v3 rfl rfl, one 3 r4 v4 rfl rfl, one 4 r5 v5 rfl rfl]
  exact hrun fn.results.toList (by simp) h4 h hn
theorem results_ok {fn : Func} (h4 : fn.results.toList.length ≤ 5) {l : AV} {k : AV → R} {x : AV × HP} (hk : oneOf l k = some x) : ∃ v, k v = some x ∧ ∀ φ (tmps : Array Value) (w : World) (vs : List Value), VL φ l vs → vs.length = fn.results.toList.length →
    (∀ (i : Nat) (rv : ResultVar), fn.results.toList[i]? = some rv → ∃ v, vs[i]? = some v ∧ (resOne tmps rv).run P w = .ok v w) → ∃ v', (results fn tmps).run P w = .ok v' w ∧ VR φ v v' := by
  unfold oneOf at hk
  split at hk
  · rename_i v
    refine ⟨v, hk, fun φ tmps w vs hl hn h => ?_⟩
    have hr := results_run (P := P) h4 hn h
    obtain ⟨v0, vs', e, hv, hvs⟩ := hl
    have : vs' = [] := hvs
    subst e this
    exact ⟨v0, by rw [hr]; rfl, hv⟩
  · rename_i hno
    refine ⟨_, hk, fun φ tmps w vs hl hn h => ⟨.tuple vs.toArray, ?_, vs.toArray, rfl, by simpa using hl⟩⟩
    rw [results_run (P := P) h4 hn h, dif_neg]
    intro hs
    have hs' : vs.length = 1 := by simpa using hs
    cases l with
    | cons y r =>
      obtain ⟨v0, vs', e, hv, hvs⟩ := hl
      subst e
      have h0 : vs' = [] := by simpa using hs'
      subst h0
      cases r <;> first | exact hno _ rfl | skip
      all_goals first | (obtain ⟨_, _, e, _⟩ := hvs; cases e) | exact hvs.elim
    | nil => have : vs = [] := hl; subst this; simp at hs'
    | _ => exact hl.elim
end
noncomputable def initT (dt : Nat) (lo : Nat → Bool) (l : AV) : Nat → Tr → Tr :=
  AV.rec (motive := fun _ => Nat → Tr → Tr) (fun _ t => t) (fun _ t => t) (fun x _ _ ih i t => ih (Nat.succ i) (Bool.rec (t.set (path dt i) x) t (lo i))) (fun _ t => t) (fun _ _ _ _ t => t) (fun _ t => t) (fun _ _ _ _ _ _ t => t) (fun _ t => t) (fun _ _ t => t) (fun _ _ _ t => t) (fun _ _ _ t => t) (fun _ t => t) (fun _ _ _ _ _ t => t) (fun _ _ _ _ _ t => t) (fun _ _ _ _ t => t) (fun _ _ t => t) (fun _ _ t => t) (fun _ t => t) (fun _ _ _ t => t) (fun _ _ t => t) (fun _ _ t => t) (fun _ _ _ t => t) l
theorem FR.set {φ : Id → Option Plc} {dt n : Nat} {lo : Nat → Bool} {t : Tr} {a : Act} (hf : FR φ dt n lo t a) {i : Nat} {x : AV} (hi : i < n) (hl : lo i = false) (hx : VR φ x (a.tmps.getD i undef)) : FR φ dt n lo (t.set (path dt i) x) a := by
  have ne : ∀ k, k ≤ n → i ≠ k → path dt k ≠ path dt i := fun k hk h e => h (path_inj dt k i (Nat.lt_of_le_of_lt hk hf.cap) (Nat.lt_trans hi hf.cap) e).symm
  refine ⟨hf.sz, hf.cap, fun k hk => ?_, fun k hk hl' => ?_, ?_⟩
  · by_cases h : i = k
    · subst h; rw [getT_get, T4.get_set_same]; exact hx
    · rw [getT_get, T4.get_set_other _ _ _ _ (by rw [path_len, path_len]) (ne k (Nat.le_of_lt hk) h), ← getT_get]
      exact hf.at' k hk
  · have h : i ≠ k := fun e => by subst e; rw [hl] at hl'; cases hl'
    rw [getT_get, T4.get_set_other _ _ _ _ (by rw [path_len, path_len]) (ne k (Nat.le_of_lt hk) h), ← getT_get]
    exact hf.lo k hk hl'
  · rw [getT_get, T4.get_set_other _ _ _ _ (by rw [path_len, path_len]) (ne n (Nat.le_refl n) (Nat.ne_of_lt hi)), ← getT_get]
    exact hf.df
theorem initT_ok {φ : Id → Option Plc} {dt n : Nat} {lo : Nat → Bool} {a : Act} : ∀ {l : AV} {vs : List Value} {i : Nat} {t : Tr}, VL φ l vs → i + vs.length ≤ n → (∀ (j : Nat) (v : Value), vs[j]? = some v → a.tmps.getD (i + j) undef = v) → FR φ dt n lo t a → FR φ dt n lo (initT dt lo l i t) a
  | .nil, vs, i, t, hl, hle, hv, hf => hf
  | .cons x r, vs, i, t, ⟨v, vs', e, h1, h2⟩, hle, hv, hf => by
    subst e
    simp only [List.length_cons] at hle
    have h0 := hv 0 v rfl
    rw [Nat.add_zero] at h0
    show FR φ dt n lo (initT dt lo r (Nat.succ i) (Bool.rec (t.set (path dt i) x) t (lo i))) a
    refine initT_ok h2 (by omega) (fun j u hj => ?_) ?_
    · have := hv (j + 1) u (by simpa using hj)
      rw [← this]
      congr 1
      omega
    · cases hlo : lo i with
      | true => exact hf
      | false => exact hf.set (by omega) hlo (by rw [h0]; exact h1)
theorem FR.start {φ : Id → Option Plc} {dt n : Nat} {lo : Nat → Bool} {a : Act} (hn : n < 4 ^ dt) (hs : a.tmps.size = n) (hd : a.defers = []) : FR φ dt n lo .e a := by
  have hu : ∀ p, getT p (T4.e : Tr) = .u := fun p => by rw [getT_get, T4.get_e]; rfl
  exact ⟨hs, hn, fun d _ => by rw [hu]; exact trivial, fun d _ _ => hu _, by rw [hu, hd]; rfl⟩
theorem enter_ok {φ : Id → Option Plc} {dt n : Nat} {lo : Nat → Bool} (hn : n < 4 ^ dt) {l : AV} {ars : Array Value} (hl : VL φ l ars.toList) (hle : l.len ≤ n) : FR φ dt n lo (initT dt lo l 0 .e) { tmps := ars ++ Array.replicate (n - ars.size) undef, defers := [] } := by
  have hsz : ars.size ≤ n := by rw [← Array.length_toList, VL.len hl]; exact hle
  refine initT_ok hl (by rw [Array.length_toList]; omega) (fun j v hj => ?_) (FR.start hn (by simp; omega) rfl)
  rw [Array.getElem?_toList] at hj
  simp only [Nat.zero_add, Array.getD_eq_getD_getElem?]
  rw [Array.getElem?_append_left (Array.getElem?_eq_some_iff.1 hj).1, hj]
  rfl
def LeavesX (P : Program) (fn : Func) (tmps : Array Value) (R : Ending → World → Prop) : List Deferred → FrameMode → World → Prop
  | [], u, w => Leaves P fn tmps R [] u w
  | d :: ds, u, w => u ≠ .run ∧ ((∃ r w', d.target = .collected r ∧ (Instr.takeDeferred r).run P w = .ok [] w' ∧ LeavesX P fn tmps R ds u w') ∨
      ∃ fv cap f args, d.target = .fn fv cap ∧ (invoke d.target d.args).run P w = .ok (.enter f args) w ∧ CallsD P f args u w fun
        | .returned _, u', w' => LeavesX P fn tmps R ds (settle u') w'
        | .panicked chain, u', w' => LeavesX P fn tmps R ds (raised u' chain) w'
        | .outgrown, _, w' => R .outgrown w')
theorem leaves_stepsX {P : Program} {fn : Func} {tmps : Array Value} {R : Ending → World → Prop} : ∀ (ds : List Deferred) (u : FrameMode) (w : World) (fr : Frame)
    (cs : List Frame), fr.mode = u → fr.defers = ds → fr.tmps = tmps → P.funcs[fr.fn]? = some fn → fr.kind = .normal → LeavesX P fn tmps R ds u w →
    ∃ e w' fr', R e w' ∧ Comes P (lone fr cs w) (lone fr' cs w') e ∧ fr'.fn = fr.fn ∧ fr'.leaving P w' e := by
  intro ds
  induction ds with
  | nil => exact fun u w fr cs hu hd ht hf hk h => leaves_steps [] u w fr cs hu hd ht hf hk h
  | cons d ds ih =>
    intro u w fr cs hu hd ht hf hk h
    obtain ⟨hrun, h⟩ := h
    rcases h with ⟨r, w', htar, htake, hrest⟩ | ⟨fv, cap, f, args, htar, hinv, hcall⟩
    · have h1 := step_collected (cs := cs) (hu ▸ hrun) hd htar htake
      obtain ⟨e', w'', fr', hR', hs', hfn', hl'⟩ := ih u w' { fr with defers := [] ++ ds } cs hu rfl ht hf hk hrest
      exact ⟨e', w'', fr', hR', Comes.of_steps (.one h1) hs', hfn', hl'⟩
    · have h1 := step_defer (cs := cs) (hu ▸ hrun) hd htar hinv
      obtain ⟨e, u', w', frX, hR, hsteps, hkX, hgo⟩ := hcall { fr with defers := ds } cs hu
      cases e with
      | returned v =>
        have h2 := step_going_returned (c := { { fr with defers := ds } with mode := u' }) (cs := cs) hkX hgo
        obtain ⟨e', w'', fr', hR', hs', hfn', hl'⟩ := ih (settle u') w' { { { fr with defers := ds } with mode := u' } with mode := settle u' } cs rfl rfl ht hf hk hR
        exact ⟨e', w'', fr', hR', Comes.of_steps (.head h1 (Steps.trans hsteps (.one h2))) hs', hfn', hl'⟩
      | panicked chain =>
        have h2 := step_going_panicked (c := { { fr with defers := ds } with mode := u' }) (cs := cs) hgo
        obtain ⟨e', w'', fr', hR', hs', hfn', hl'⟩ := ih (raised u' chain) w' { { { fr with defers := ds } with mode := u' } with mode := raised u' chain } cs rfl rfl ht hf hk hR
        exact ⟨e', w'', fr', hR', Comes.of_steps (.head h1 (Steps.trans hsteps (.one h2))) hs', hfn', hl'⟩
      | outgrown => exact ⟨.outgrown, w', fr, hR, Outgrown.of_steps (.one h1) hsteps, rfl, trivial⟩
def bodyPostX (P : Program) (fn : Func) (R : Ending → World → Prop) : Exit → Act → World → Prop
  | .normal, a, w | .ret, a, w => LeavesX P fn a.tmps R a.defers .returning w
  | .panic chain, a, w => LeavesX P fn a.tmps R a.defers (.panicking chain) w
  | .outgrown, _, w => R .outgrown w
  | _, _, _ => False
theorem calls_of_wp_marks {P : Program} {f : FuncId} {fn : Func} {c : Code} {args : Array Value} {w : World} {R : Ending → World → Prop}
    (hf : P.funcs[f]? = some fn) (hb : fn.body = some c)
    (h : c.wp P (bodyPostX P fn R) { tmps := args ++ Array.replicate (fn.ntmps - args.size) undef, defers := [] } w) : Calls P f args w R := by
  intro cs
  let b : Frame := { (default : Frame) with fn := f, kind := .normal }
  have henter : Frame.enter P f args .normal =
      b.at { tmps := args ++ Array.replicate (fn.ntmps - args.size) undef, defers := [] } [.code c] := by
    simp [Frame.enter, Frame.at, hf, hb, b]
  obtain ⟨e, a', w', hq, harr⟩ := h b [] cs
  rw [← henter] at harr
  cases e with
  | normal =>
    obtain ⟨e', w'', fr', hR, hs, hfn, hl⟩ := leaves_stepsX a'.defers .returning w' { b.at a' [] with mode := .returning } cs rfl rfl rfl hf rfl hq
    exact ⟨e', w'', fr', hR, Comes.of_steps (Steps.trans harr (.one step_end)) hs, hfn, hl⟩
  | ret =>
    obtain ⟨todo, hs₀⟩ := harr
    obtain ⟨e', w'', fr', hR, hs, hfn, hl⟩ := leaves_stepsX a'.defers .returning w' { b.at a' todo with mode := .returning } cs rfl rfl rfl hf rfl hq
    exact ⟨e', w'', fr', hR, Comes.of_steps hs₀ hs, hfn, hl⟩
  | panic chain =>
    obtain ⟨todo, hs₀⟩ := harr
    obtain ⟨e', w'', fr', hR, hs, hfn, hl⟩ := leaves_stepsX a'.defers (.panicking chain) w' { b.at a' todo with mode := .panicking chain } cs rfl rfl rfl hf rfl hq
    exact ⟨e', w'', fr', hR, Comes.of_steps hs₀ hs, hfn, hl⟩
  | exit id => exact hq.elim
  | goto l => exact hq.elim
  | outgrown => exact ⟨.outgrown, w', b, hq, harr.resolve_left (by simp [b]), rfl, trivial⟩
theorem leavesX_cons {P : Program} {fn : Func} {tmps : Array Value} {R : Ending → World → Prop} {fv : Fn} {cap : Array Value} {args0 : Array Value} {ds : List Deferred} {u : FrameMode} {w : World} {f : FuncId} {args : Array Value} (hu : u ≠ .run) (hinv : (invoke (.fn fv cap) args0).run P w = .ok (.enter f args) w)
    (h : CallsD P f args u w fun
      | .returned _, u', w' => LeavesX P fn tmps R ds (settle u') w'
      | .panicked chain, u', w' => LeavesX P fn tmps R ds (raised u' chain) w'
      | .outgrown, _, w' => R .outgrown w') : LeavesX P fn tmps R ({ target := .fn fv cap, args := args0 } :: ds) u w := ⟨hu, .inr ⟨fv, cap, f, args, rfl, hinv, h⟩⟩
noncomputable def onOff (y : AV) (kf : AV → AV → R) (kq : Id → R) : R := AV.rec (motive := fun _ => R) none none (fun x0 x1 _ _ => kf x0 x1) none (fun _ _ _ => none) none (fun _ _ _ _ _ => none) none (fun q => kq q) (fun _ _ => none) (fun _ _ => none) none (fun _ _ _ _ => none) (fun _ _ _ _ => none) (fun _ _ _ => none) (fun _ => none) (fun _ => none) none (fun _ _ => none) (fun _ => none) (fun _ => none) (fun _ _ => none) y
theorem onOff_some {y : AV} {kf : AV → AV → R} {kq : Id → R} {r : AV × HP} (h : onOff y kf kq = some r) : (∃ x0 x1, y = .cons x0 x1 ∧ kf x0 x1 = some r) ∨ ∃ q, y = .mp q ∧ kq q = some r := by
  cases y <;> first | exact .inl ⟨_, _, rfl, h⟩ | exact .inr ⟨_, rfl, h⟩ | cases h
noncomputable def onDfd (hp : HP) (q : Id) (k : HP → R) : R := match hp with
  | .mk m nx => match m.get q with
    | some (.dfd true) => k (.mk (m.set q (.dfd false)) nx)
    | _ => none
theorem onDfd_some {hp : HP} {q : Id} {k : HP → R} {r : AV × HP} (h : onDfd hp q k = some r) : ∃ m nx, hp = .mk m nx ∧ m.get q = some (.dfd true) ∧ k (.mk (m.set q (.dfd false)) nx) = some r := by
  unfold onDfd at h
  split at h
  rename_i m nx
  split at h
  · rename_i e; exact ⟨m, nx, rfl, e, h⟩
  · cases h
noncomputable def leaveM (hd : Hd) (l : AV) : AV → HP → KV → R :=
  AV.rec (motive := fun _ => AV → HP → KV → R) (fun md hp k => k md hp) (fun _ _ _ => none) (fun x _ _ ih md hp k => onOff x (fun f args => f.on_fn fun f first cap => match f with
    | .func f => hd.d f (first.app (args.app cap)) md hp fun md hp => ih md hp k
    | _ => none) fun q => onDfd hp q fun hp => ih md hp k) (fun _ _ _ => none) (fun _ _ _ _ _ _ => none) (fun _ _ _ => none) (fun _ _ _ _ _ _ _ _ => none) (fun _ _ _ => none) (fun _ _ _ _ => none) (fun _ _ _ _ _ => none) (fun _ _ _ _ _ => none) (fun _ _ _ => none) (fun _ _ _ _ _ _ _ => none) (fun _ _ _ _ _ _ _ => none) (fun _ _ _ _ _ _ => none) (fun _ _ _ _ => none) (fun _ _ _ _ => none) (fun _ _ _ => none) (fun _ _ _ _ _ => none) (fun _ _ _ _ => none) (fun _ _ _ _ => none) (fun _ _ _ _ _ => none) l
theorem ModeR.run {φ : Id → Option Plc} {md : AV} {u : FrameMode} (h : ModeR φ md u) : u ≠ .run := by
  unfold ModeR at h
  split at h
  · rw [h]; exact nofun
  · obtain ⟨v', e, _⟩ := h; rw [e]; exact nofun
  · exact h.elim
theorem leaveM_some {P : Program} {G : Nat} {hd : Hd} (hok : HdOk P G hd) : ∀ {l : AV} {md : AV} {hp : HP} {k : KV} {x : AV × HP}, leaveM hd l md hp k = some x → ∃ md' hp', k md' hp' = some x ∧ ∀ φ (B : Bse hd.y.s) w (ds : List Deferred) u fn tmps (R : Ending → World → Prop), Glo G φ → WH φ B hp w → DfR φ l ds → ModeR φ md u →
      (∀ ψ u' w', ModeR ψ md' u' → StH φ hp w ψ hp' w' → WH ψ B hp' w' → Leaves P fn tmps R [] u' w') → LeavesX P fn tmps R ds u w
  | .u, md, hp, k, x, h => ⟨md, hp, h, fun φ B w ds u fn tmps R _ hw hds hm hR => by have : ds = [] := hds; subst this; exact hR φ u w hm Step.refl hw⟩
  | .cons y r, md, hp, k, x, h => by
    rcases onOff_some (show onOff y (fun f args => f.on_fn fun f first cap => match f with
      | .func f => hd.d f (first.app (args.app cap)) md hp fun md hp => leaveM hd r md hp k
      | _ => none) (fun q => onDfd hp q fun hp => leaveM hd r md hp k) = some x from h) with ⟨f, args, e1, h1⟩ | ⟨q, e1, h1⟩
    rotate_left
    · subst e1
      obtain ⟨m, nx, rfl, hq, h2⟩ := onDfd_some h1
      obtain ⟨md2, hp2, h5, h6⟩ := leaveM_some hok h2
      refine ⟨md2, hp2, h5, fun φ B w ds u fn tmps R g1 hw hds hm hR => ?_⟩
      obtain ⟨g, ds', hg, e, hds'⟩ := hds
      subst e
      have hw' : WR φ B m nx w := hw
      obtain ⟨o, e2, h7⟩ := hw'.blk q _ g hq hg
      have h8 : o = .deferred (some []) := h7
      subst h8
      obtain ⟨s1, s2⟩ := hw'.put (y := .dfd false) (w' := w.putObj g.1 (.deferred none)) (o := .deferred none) hq rfl rfl hg rfl rfl rfl World.putObj_size (fun k hk => World.putObj_heap_other hk) (World.putObj_heap_same (hw'.lt q g hg)) rfl
      refine ⟨hm.run, .inl ⟨g.1, _, rfl, run_takeDeferred e2, ?_⟩⟩
      exact h6 φ B _ ds' u fn tmps R g1 s1 hds' hm fun χ u2 w2 t1 t2 t3 => hR χ u2 w2 t1 (s2.trans t2) t3
    subst e1
    obtain ⟨fn0, first, cap, e2, h2⟩ := AV.on_fn_some h1
    subst e2
    split at h2
    · rename_i fid
      obtain ⟨md1, hp1, h3, h4⟩ := hok.d fid _ md hp _ x h2
      obtain ⟨md2, hp2, h5, h6⟩ := leaveM_some hok h3
      refine ⟨md2, hp2, h5, fun φ B w ds u fn tmps R g1 hw hds hm hR => ?_⟩
      obtain ⟨us, ys, ars, ds', e, v1, v2, v3, hds'⟩ := hds
      subst e
      have hargs : VL φ (first.app (args.app cap)) ((us ++ ars) ++ ys).toList := by
        rw [Array.toList_append, Array.toList_append, List.append_assoc]
        exact VL.app v1 (VL.app v3 v2)
      obtain ⟨c1, c2⟩ := h4 φ B w _ u g1 hw hargs hm
      refine leavesX_cons hm.run (f := fid) (args := (us ++ ars) ++ ys) c1 (c2.mono fun e u' w' he => ?_)
      obtain ⟨⟨v, rfl⟩, ψ, q1, q2, q3⟩ := he
      exact h6 ψ B w' ds' (settle u') fn tmps R (g1.more q2.more) q3 (hds'.more q2.more) q1 fun χ u2 w2 s1 s2 s3 => hR χ u2 w2 s1 (q2.trans s2) s3
    · cases h2
end Go.Proofs.YtknjkljigmepjaaGreatDoor.Clo
end
section
namespace Go.Proofs.YtknjkljigmepjaaGreatDoor.Clo
open Go.RowKit
set_option linter.unusedVariables false
set_option linter.unusedSimpArgs false
set_option linter.constructorNameAsVariable false
variable [Tabs]
def behind (next : Act → World → Prop) (Q : Exit → Act → World → Prop) : Exit → Act → World → Prop
  | .normal, a, w => next a w
  | e, a, w => Q e a w
def wpL (P : Program) : List Code → (Exit → Act → World → Prop) → Act → World → Prop
  | [], Q, a, w => Q .normal a w
  | c :: l, Q, a, w => c.wp P (behind (wpL P l Q) Q) a w
section
variable {P : Program}
theorem wpL_app : ∀ (l1 l2 : List Code) (Q : Exit → Act → World → Prop) (a : Act) (w : World), wpL P l1 (behind (wpL P l2 Q) Q) a w → wpL P (l1 ++ l2) Q a w
  | [], l2, Q, a, w, h => h
  | c :: l1, l2, Q, a, w, h => by
    refine wp_mono (show c.wp P _ a w from h) fun e a w q => ?_
    cases e with
    | normal => exact wpL_app l1 l2 Q a w q
    | _ => exact q
end
section
variable {P : Program} {G dt n : Nat} {lo : Nat → Bool}
noncomputable def cmL (mk : Code → CM) : List Code → CM
  | [] => .mk fun _ t hp k => k .normal t hp
  | c :: l => let m := mk c; let q := cmL mk l; .mk fun hd t hp k => m.run hd t hp fun x t hp => match x with
    | .normal => q.run hd t hp k
    | x => k x t hp
theorem cmL_ok {mk : Code → CM} (hm : ∀ c, CMOk P G dt n lo c (mk c)) : ∀ (l : List Code), ∀ hd, HdOk P G hd → ∀ t hp k r, (cmL mk l).run hd t hp k = some r → ∃ x t' hp', k x t' hp' = some r ∧
    ∀ φ (B : Bse hd.y.s) a w, Glo G φ → FR φ dt n lo t a → WH φ B hp w → ∀ Q, (∀ ψ a' w' x', ExR ψ x x' → FR ψ dt n lo t' a' → StH φ hp w ψ hp' w' → WH ψ B hp' w' → Q x' a' w') → wpL P l Q a w
  | [], hd, hok, t, hp, k, r, h => ⟨.normal, t, hp, h, fun φ B a w g1 g2 g3 Q hQ => hQ φ a w _ rfl g2 Step.refl g3⟩
  | c :: l, hd, hok, t, hp, k, r, h => by
    obtain ⟨x, t1, hp1, h1, h2⟩ := (hm c).wp hok h
    cases x with
    | normal =>
      obtain ⟨x2, t2, hp2, h3, h4⟩ := cmL_ok hm l hd hok t1 hp1 k r h1
      refine ⟨x2, t2, hp2, h3, fun φ B a w g1 g2 g3 Q hQ => h2 φ B a w g1 g2 g3 _ fun ψ a' w' x' f0 f1 f2 f3 => ?_⟩
      have : x' = .normal := f0
      subst this
      exact h4 ψ B a' w' (g1.more f2.more) f1 f3 Q fun χ a'' w'' x'' e0 e1 e2 e3 => hQ χ a'' w'' x'' e0 e1 (f2.trans e2) e3
    | exit i =>
      refine ⟨_, t1, hp1, h1, fun φ B a w g1 g2 g3 Q hQ => h2 φ B a w g1 g2 g3 _ fun ψ a' w' x' f0 f1 f2 f3 => ?_⟩
      have hq := hQ ψ a' w' x' f0 f1 f2 f3
      have : x' = .exit i := f0
      subst this
      exact hq
    | ret =>
      refine ⟨_, t1, hp1, h1, fun φ B a w g1 g2 g3 Q hQ => h2 φ B a w g1 g2 g3 _ fun ψ a' w' x' f0 f1 f2 f3 => ?_⟩
      have hq := hQ ψ a' w' x' f0 f1 f2 f3
      have : x' = .ret := f0
      subst this
      exact hq
    | pan v =>
      refine ⟨_, t1, hp1, h1, fun φ B a w g1 g2 g3 Q hQ => h2 φ B a w g1 g2 g3 _ fun ψ a' w' x' f0 f1 f2 f3 => ?_⟩
      have hq := hQ ψ a' w' x' f0 f1 f2 f3
      obtain ⟨v', e, _⟩ := f0
      subst e
      exact hq
def splitR : Code → Option (Array Oper × List Code)
  | .seq (.region _ ops false) d => some (ops, [d])
  | .seq (.seq x y) d => match splitR (.seq x y) with
    | some (ops, l) => some (ops, l ++ [d])
    | none => none
  | _ => none
theorem wpL_unapp : ∀ (l1 : List Code) (d : Code) (Q Q1 : Exit → Act → World → Prop) (a : Act) (w : World), (∀ e a w, e ≠ .normal → Q e a w → Q1 e a w) → (∀ a w, d.wp P Q a w → Q1 .normal a w) → wpL P (l1 ++ [d]) Q a w → wpL P l1 Q1 a w
  | [], d, Q, Q1, a, w, h1, h2, h => h2 a w (wp_mono (show d.wp P _ a w from h) fun e a w q => by cases e <;> exact q)
  | c :: l1, d, Q, Q1, a, w, h1, h2, h => by
    refine wp_mono (show c.wp P _ a w from h) fun e a w q => ?_
    cases e with
    | normal => exact wpL_unapp l1 d Q Q1 a w h1 h2 q
    | _ => exact h1 _ a w nofun q
def Behind1 (P : Program) (l : List Code) (Q : Exit → Act → List Frame → World → Prop) : Exit → Act → List Frame → World → Prop
  | .normal, a, cs, w => wpL P l (fun e a w => Q e a cs w) a w
  | e, a, cs, w => Q e a cs w
theorem split_wpS : ∀ {c : Code} {ops : Array Oper} {l : List Code}, splitR c = some (ops, l) → ∀ {Q : Exit → Act → List Frame → World → Prop} {a : Act} {cs : List Frame} {w : World},
    (∀ QS : Exit → Act → List Frame → World → Prop, (∀ e a cs w, Behind1 P l Q e a cs w → QS e a cs w) → wpOpsS P ops QS (List.range ops.size) a cs w) → c.wpS P Q a cs w := by
  intro c
  induction c with
  | seq x d ihx ihd =>
    intro ops l h Q a cs w hw
    cases x with
    | region id ops' dr =>
      cases dr with
      | true => simp only [splitR] at h; cases h
      | false =>
        simp only [splitR, Option.some.injEq, Prod.mk.injEq] at h
        obtain ⟨rfl, rfl⟩ := h
        refine wpS_seq (wpS_region (hw _ fun e a cs w q => ?_))
        cases e with
        | normal => exact wpS_of_wp (wp_mono (show d.wp P _ a w from q) fun e a w q => by cases e <;> exact q)
        | _ => exact q
    | seq x y =>
      simp only [splitR] at h
      cases hs : splitR (.seq x y) with
      | none => rw [hs] at h; cases h
      | some p =>
        obtain ⟨ops', l'⟩ := p
        rw [hs] at h
        simp only [Option.some.injEq, Prod.mk.injEq] at h
        obtain ⟨rfl, rfl⟩ := h
        refine wpS_seq (ihx hs fun QS hQS => hw QS fun e a cs w q => hQS e a cs w ?_)
        cases e with
        | normal => exact wpL_unapp l' d _ _ a w (fun e a w hne q => by cases e <;> first | exact absurd rfl hne | exact q) (fun a w q => wpS_of_wp q) q
        | _ => exact q
    | _ => simp only [splitR] at h; cases h
  | _ => intro ops l h; simp only [splitR] at h; cases h
end
end Go.Proofs.YtknjkljigmepjaaGreatDoor.Clo
end
section
namespace Go.Proofs.YtknjkljigmepjaaGreatDoor.Clo
open Go.RowKit
set_option linter.unusedVariables false
set_option linter.unusedSimpArgs false
set_option linter.constructorNameAsVariable false
variable [Tabs]
def maskOf : List Nat → Nat → Nat
  | [], acc => acc
  | d :: r, acc => maskOf r (Nat.lor acc (bitOf d))
def lessOf (W : Nat) : List Nat → List Nat
  | [] => []
  | d :: r => match W.testBit d with
    | true => lessOf W r
    | false => d :: lessOf W r
def keptOps (ops : Array Oper) : List Oper → Nat → Nat → Nat
  | [], _, acc => acc
  | o :: r, W, acc => keptOps ops r (match o.dst with | some d => Nat.lor W (bitOf d) | none => W) (maskOf (lessOf W (reads ops o)) acc)
def kept : Code → Nat → Nat
  | .region _ ops _, acc => keptOps ops ops.toList 0 acc
  | .seq a b, acc => kept b (kept a acc)
  | .cond c a b, acc => kept b (kept a (maskOf (slotOf c).toList acc))
  | .block _ a, acc => kept a acc
  | .loop a, acc => kept a acc
  | .scope a, acc => kept a acc
  | .rangeFunc g _ a b, acc => kept b (kept a (maskOf (slotOf g).toList acc))
  | _, acc => acc
def resSlots : List ResultVar → List Nat
  | [] => []
  | .tmp d :: r => d :: resSlots r
  | .cell d _ :: r => d :: resSlots r
def loOf (fn : Func) (c : Code) : Nat := kept c (maskOf (resSlots fn.results.toList) 0)
def digs (n : Nat) : Nat := match Nat.blt n 4, Nat.blt n 16, Nat.blt n 64, Nat.blt n 256 with
  | true, _, _, _ => 1
  | _, true, _, _ => 2
  | _, _, true, _ => 3
  | _, _, _, true => 4
  | _, _, _, _ => 5
inductive DM where | mk (f : Hd → AV → AV → HP → KV → R)
noncomputable def DM.run (q : DM) : Hd → AV → AV → HP → KV → R := DM.rec (fun f => f) q
noncomputable def finK (q : QM) (t : Tr) (k : KV) (kp : KP) (md : AV) (hp : HP) : R := match md with
  | .nil => q.run t hp fun l => oneOf l fun v => k v hp
  | .cons v .nil => kp v hp
  | _ => none
section
variable (P : Program) (G fuel : Nat) (fn : Func)
noncomputable def opsOf (dt : Nat) : OpM := fun ds o => match odAll P G dt fn.ntmps ds o with
  | some q => some q.1
  | none => none
noncomputable def kindOf (dt : Nat) (o : Oper) : Kd := match odAll P G dt fn.ntmps [] o with
  | some q => q.1.1
  | none => .eff
noncomputable def cmOf (dt : Nat) : CmM := fun ds o => match cdAll P G dt fn.ntmps ds o with
  | some q => some q.1
  | none => none
noncomputable def bodyM (dt : Nat) (lo : Nat → Bool) (c : Code) : CM := codeM G dt fn.ntmps lo (opsOf P G fn dt) (cmOf P G fn dt) (regM G dt fn.ntmps lo (opsOf P G fn dt) (kindOf P G fn dt)) fuel c
noncomputable def funcM : FM := match fn.body with
  | none => .mk fun _ _ _ _ _ => none
  | some c =>
    let dt := digs fn.ntmps
    let mask := loOf fn c
    let lo := fun d => !mask.testBit d
    let m := bodyM P G fuel fn dt lo c
    let q := resL P dt fn.ntmps fn.results.toList
    let p := path dt fn.ntmps
    match Nat.blt fn.ntmps (4 ^ dt), Nat.ble fn.results.toList.length 5 with
    | true, true => .mk fun hd args hp k kp => match Nat.ble args.len fn.ntmps with
      | true => m.run hd (initT dt lo args 0 .e) hp fun x t hp => Ex.rec (leaveM hd (getT p t) .nil hp (finK q t k kp)) (fun _ => none) (leaveM hd (getT p t) .nil hp (finK q t k kp)) (fun v => leaveM hd (getT p t) (.cons v .nil) hp (finK q t k kp)) x
      | false => none
    | _, _ => .mk fun _ _ _ _ _ => none
noncomputable def recV (md : AV) (k : AV → R) : R := match md with
  | .nil => k .inil
  | .cons v .nil => k v
  | _ => none
def isRec (o : Oper) : Bool := match o.guard, o.op with
  | none, .call c => (match c.callee with | .builtin .recover => true | _ => false)
  | _, _ => false
noncomputable def plainM (dt : Nat) (lo : Nat → Bool) (c : Code) : DM :=
  let q := resL P dt fn.ntmps fn.results.toList
  let p := path dt fn.ntmps
  let m := bodyM P G fuel fn dt lo c
  .mk fun hd args md hp k => match Nat.ble args.len fn.ntmps with
    | true => m.run hd (initT dt lo args 0 .e) hp fun x t hp => match x, getT p t with
      | .normal, .u => q.run t hp fun l => oneOf l fun _ => k md hp
      | .ret, .u => q.run t hp fun l => oneOf l fun _ => k md hp
      | _, _ => none
    | false => none
noncomputable def defM : DM := match fn.body with
  | none => .mk fun _ _ _ _ _ => none
  | some c =>
    let dt := digs fn.ntmps
    let mask := loOf fn c
    let lo := fun d => !mask.testBit d
    let q := resL P dt fn.ntmps fn.results.toList
    let p := path dt fn.ntmps
    match Nat.blt fn.ntmps (4 ^ dt), Nat.ble fn.results.toList.length 5 with
    | true, true => match splitR c with
      | some (ops, rest) => match ops.toList with
        | o :: os => match isRec o, o.dst with
          | true, some d => match Nat.blt d fn.ntmps with
            | true =>
              let m1 := opsM G dt fn.ntmps lo (opsOf P G fn dt) (fun _ _ => none) ops os [some d]
              let m2 := cmL (bodyM P G fuel fn dt lo) rest
              let pd := path dt d
              .mk fun hd args md hp k => match Nat.ble args.len fn.ntmps with
                | true => recV md fun v => m1.run hd.off [v] (Bool.rec ((initT dt lo args 0 .e).set pd v) (initT dt lo args 0 .e) (lo d)) hp fun x t hp => match x with
                  | .normal => m2.run hd t hp fun x t hp => match x, getT p t with
                    | .normal, .u => q.run t hp fun l => oneOf l fun _ => k .nil hp
                    | .ret, .u => q.run t hp fun l => oneOf l fun _ => k .nil hp
                    | _, _ => none
                  | _ => none
                | false => none
            | false => .mk fun _ _ _ _ _ => none
          | _, _ => plainM P G fuel fn dt lo c
        | _ => plainM P G fuel fn dt lo c
      | none => plainM P G fuel fn dt lo c
    | _, _ => .mk fun _ _ _ _ _ => none
end
section
variable {P : Program} {G : Nat}
def FMOk (P : Program) (G : Nat) (f : FuncId) (m : FM) : Prop := ∀ hd, HdOk P G hd → ∀ args hp k kp r, m.run hd args hp k kp = some r →
  (∃ v hp', k v hp' = some r ∧ ∀ φ (B : Bse hd.y.s) w (ars : Array Value), Glo G φ → WH φ B hp w → VL φ args ars.toList → CallOk P f ars w (Aft φ B hp w v hp')) ∨
  (∃ v hp', kp v hp' = some r ∧ ∀ φ (B : Bse hd.y.s) w (ars : Array Value), Glo G φ → WH φ B hp w → VL φ args ars.toList → CallPan P f ars w (Aft φ B hp w v hp'))
def DMOk (P : Program) (G : Nat) (f : FuncId) (m : DM) : Prop := ∀ hd, HdOk P G hd → ∀ args md hp k r, m.run hd args md hp k = some r → ∃ md' hp', k md' hp' = some r ∧ ∀ φ (B : Bse hd.y.s) w (ars : Array Value) u, Glo G φ → WH φ B hp w → VL φ args ars.toList → ModeR φ md u →
  (callFunc f ars).run P w = .ok (.enter f ars) w ∧ CallsD P f ars u w fun e u' w' => (∃ v, e = .returned v) ∧ ∃ ψ, ModeR ψ md' (settle u') ∧ StH φ hp w ψ hp' w' ∧ WH ψ B hp' w'
theorem opsOf_ok {fn : Func} {dt : Nat} {ds : List (Option Nat)} {o : Oper} {q : Kd × OM} (h : opsOf P G fn dt ds o = some q) : OmOk P G dt fn.ntmps ds o q := by
  unfold opsOf at h
  split at h
  · rename_i q' _; cases h; exact q'.2
  · cases h
theorem cmOf_ok {fn : Func} {dt : Nat} {ds : List (Option Nat)} {o : Oper} {F : VM} (h : cmOf P G fn dt ds o = some F) : ComOk P G dt fn.ntmps ds o F := by
  unfold cmOf at h
  split at h
  · rename_i q' _; cases h; exact q'.2
  · cases h
theorem bodyM_ok {fuel : Nat} {fn : Func} {dt : Nat} {lo : Nat → Bool} (hmix : P.follows .mixedOrders = true) (c : Code) : CMOk P G dt fn.ntmps lo c (bodyM P G fuel fn dt lo c) :=
  codeM_ok (fun ds o q h => opsOf_ok h) (fun ds o F h => cmOf_ok h) (fun id ops m h => regM_ok hmix (fun ds o q h => opsOf_ok h) h) c
theorem funcM_ok {fuel : Nat} {f : FuncId} {fn : Func} (hmix : P.follows .mixedOrders = true) (hf : P.funcs[f]? = some fn) (hc : ∀ (ars : Array Value) w, (callFunc f ars).run P w = .ok (.enter f ars) w) : FMOk P G f (funcM P G fuel fn) := by
  intro hd hok args hp k kp r hr
  unfold funcM at hr
  cases hb : fn.body with
  | none => simp only [hb] at hr; cases hr
  | some c =>
  simp only [hb] at hr
  generalize hlo : (fun d => !(loOf fn c).testBit d) = lo at hr
  generalize hdt : digs fn.ntmps = dt at hr
  split at hr
  · rename_i hcap h4
    have hcap' : fn.ntmps < 4 ^ dt := by simpa [Nat.blt_eq] using hcap
    have h4' : fn.results.toList.length ≤ 5 := Nat.le_of_ble_eq_true h4
    have hr' : (match Nat.ble args.len fn.ntmps with
      | true => (bodyM P G fuel fn dt lo c).run hd (initT dt lo args 0 .e) hp fun x t hp => Ex.rec (leaveM hd (getT (path dt fn.ntmps) t) .nil hp (finK (resL P dt fn.ntmps fn.results.toList) t k kp)) (fun _ => none) (leaveM hd (getT (path dt fn.ntmps) t) .nil hp (finK (resL P dt fn.ntmps fn.results.toList) t k kp)) (fun v => leaveM hd (getT (path dt fn.ntmps) t) (.cons v .nil) hp (finK (resL P dt fn.ntmps fn.results.toList) t k kp)) x
      | false => none : R) = some r := hr
    split at hr'
    · rename_i hle
      have hle' : args.len ≤ fn.ntmps := Nat.le_of_ble_eq_true hle
      obtain ⟨x, t', hp1, h1, h2⟩ := (bodyM_ok (fuel := fuel) (lo := lo) (dt := dt) (fn := fn) (G := G) hmix c).wp hok hr'
      have leave : ∀ md, leaveM hd (getT (path dt fn.ntmps) t') md hp1 (finK (resL P dt fn.ntmps fn.results.toList) t' k kp) = some r → (∀ ψ x', ExR ψ x x' → ∀ R a' w', (∀ u, ModeR ψ md u → LeavesX P fn a'.tmps R a'.defers u w') → bodyPostX P fn R x' a' w') →
          (∃ v hp', k v hp' = some r ∧ ∀ φ (B : Bse hd.y.s) w (ars : Array Value), Glo G φ → WH φ B hp w → VL φ args ars.toList → CallOk P f ars w (Aft φ B hp w v hp')) ∨
          (∃ v hp', kp v hp' = some r ∧ ∀ φ (B : Bse hd.y.s) w (ars : Array Value), Glo G φ → WH φ B hp w → VL φ args ars.toList → CallPan P f ars w (Aft φ B hp w v hp')) := by
        intro md hl hx
        obtain ⟨md', hp2, h3, h4⟩ := leaveM_some hok hl
        have all : ∀ R : Ending → World → Prop, ∀ φ (B : Bse hd.y.s) w (ars : Array Value), Glo G φ → WH φ B hp w → VL φ args ars.toList →
            (∀ ψ a' χ u' w2, FR χ dt fn.ntmps lo t' a' → ModeR χ md' u' → StH φ hp w χ hp2 w2 → WH χ B hp2 w2 → ψ = χ → Leaves P fn a'.tmps R [] u' w2) → Calls P f ars w R := by
          intro R φ B w ars g1 hw hargs hfin
          refine calls_of_wp_marks hf hb ?_
          refine h2 φ B _ w g1 (enter_ok hcap' hargs hle') hw _ fun ψ a' w' x' f0 f1 f2 f3 => ?_
          refine hx ψ x' f0 R a' w' fun u hu => ?_
          exact h4 ψ B w' a'.defers u fn a'.tmps R (g1.more f2.more) f3 f1.df hu fun χ u' w2 s1 s2 s3 => hfin χ a' χ u' w2 (f1.more s2.more) s1 (f2.trans s2) s3 rfl
        unfold finK at h3
        split at h3
        · obtain ⟨l, h5, h6⟩ := resL_some (lo := lo) h3
          have hone : ∃ v, k v hp2 = some r ∧ ∀ φ (B : Bse hd.y.s) (a : Act) w, FR φ dt fn.ntmps lo t' a → WH φ B hp2 w → ∃ v', (results fn a.tmps).run P w = .ok v' w ∧ VR φ v v' := by
            obtain ⟨v, q1, q2⟩ := results_ok (P := P) (fn := fn) h4' h5
            refine ⟨v, q1, fun φ B a w hfr hw => ?_⟩
            obtain ⟨vs, v1, v2, v3⟩ := h6 φ B a w hfr hw
            exact q2 φ a.tmps w vs v1 v2 v3
          obtain ⟨v, h7, h8⟩ := hone
          refine .inl ⟨v, hp2, h7, fun φ B w ars g1 hw hargs => .inl ⟨hc ars w, all _ φ B w ars g1 hw hargs fun ψ a' χ u' w2 s0 s1 s2 s3 _ => ?_⟩⟩
          have hu : u' = .returning := s1
          subst hu
          obtain ⟨v', q1, q2⟩ := h8 χ B a' w2 s0 s3
          exact ⟨v', q1, v', rfl, χ, q2, s2, s3⟩
        · rename_i v
          refine .inr ⟨v, hp2, h3, fun φ B w ars g1 hw hargs => ⟨hc ars w, all _ φ B w ars g1 hw hargs fun ψ a' χ u' w2 s0 s1 s2 s3 _ => ?_⟩⟩
          obtain ⟨v', e, q⟩ := s1
          subst e
          exact ⟨v', rfl, χ, q, s2, s3⟩
        · cases h3
      cases x with
      | normal => exact leave .nil h1 fun ψ x' f0 R a' w' hl => by have : x' = .normal := f0; subst this; exact hl .returning rfl
      | exit i => cases h1
      | ret => exact leave .nil h1 fun ψ x' f0 R a' w' hl => by have : x' = .ret := f0; subst this; exact hl .returning rfl
      | pan v => exact leave (.cons v .nil) h1 fun ψ x' f0 R a' w' hl => by obtain ⟨v', e, hv⟩ := f0; subst e; exact hl (.panicking (one v')) ⟨v', rfl, hv⟩
    · cases hr'
  · cases hr
end
end Go.Proofs.YtknjkljigmepjaaGreatDoor.Clo
end
section
namespace Go.Proofs.YtknjkljigmepjaaGreatDoor.Clo
open Go.RowKit
set_option linter.unusedVariables false
set_option linter.unusedSimpArgs false
set_option linter.constructorNameAsVariable false
variable [Tabs]
section
variable {P : Program} {G : Nat}
theorem wpOpsS_step {ops : Array Oper} {QS : Exit → Act → List Frame → World → Prop} {CS : List Frame} {j : Nat} {o : Oper} {l : List Nat} {a : Act} {w : World} (ho : ops[j]? = some o)
    (h : ∀ K : Act → World → Prop, (∀ a w, wpOpsS P ops QS l a CS w → K a w) → if Region.wanted o (yielded ops a.tmps) then o.wp P a w K (fun e a w => QS e a CS w) else K (a.put o.dst undef) w) : wpOpsS P ops QS (j :: l) a CS w := by
  have h' := h _ (fun _ _ h => h)
  unfold wpOpsS
  simp only [ho]
  split
  · rename_i hw
    rw [if_pos hw] at h'
    unfold Oper.wp at h'
    split
    · rename_i w' hr
      rw [hr] at h'
      exact h'.elim
    · exact h'
  · rename_i hw
    rw [if_neg hw] at h'
    exact h'
theorem isRec_some {o : Oper} (h : isRec o = true) : o.guard = none ∧ ∃ c, o.op = .call c ∧ c.callee = .builtin .recover := by
  unfold isRec at h
  split at h
  · rename_i c hg ho
    split at h
    · rename_i hc; exact ⟨hg, c, ho, hc⟩
    · cases h
  · cases h
theorem execRec {o : Oper} {e : Operand → Value} {w : World} (h : isRec o = true) : (execOp e o).run P w = .ok .recover w := by
  obtain ⟨_, c, h1, h2⟩ := isRec_some h
  unfold execOp
  rw [h1]
  simp only [resolve, h2, Sem.run_bind, Sem.run_pure, Result.andThen_ok]
  rfl
theorem wpOpsS_rec {ops : Array Oper} {QS : Exit → Act → List Frame → World → Prop} {o : Oper} {os : List Oper} {a : Act} {w : World} {c₀ : Frame} {cs : List Frame} {v : Value} {u' : FrameMode} (hops : ops.toList = o :: os) (hrec : isRec o = true)
    (hm : (c₀.mode = .returning ∧ v = .nilIface ∧ u' = .returning) ∨ (c₀.mode = .panicking (one v) ∧ u' = .panicking [{ v := v, recovered := true }]))
    (h : wpOpsS P ops QS (List.range' 1 os.length) (a.put o.dst v) ({ c₀ with mode := u' } :: cs) w) : wpOpsS P ops QS (List.range ops.size) a (c₀ :: cs) w := by
  have hsz : ops.size = os.length + 1 := by rw [← Array.length_toList, hops]; rfl
  have h0 : ops[0]? = some o := by rw [← Array.getElem?_toList, hops]; rfl
  rw [hsz, List.range_eq_range', List.range'_succ]
  unfold wpOpsS
  simp only [h0]
  rw [if_pos (by simp [Region.wanted, (isRec_some hrec).1]), execRec hrec]
  rcases hm with ⟨h1, h2, h3⟩ | ⟨h1, h2⟩
  · subst h2 h3
    have e : recoverD (c₀ :: cs) = none := by simp only [recoverD, h1]
    simp only [e]
    have e2 : ({ c₀ with mode := .returning } : Frame) = c₀ := by rw [← h1]
    rw [e2] at h
    exact h
  · subst h2
    have e : recoverD (c₀ :: cs) = some (v, { c₀ with mode := .panicking [{ v := v, recovered := true }] } :: cs) := by simp only [recoverD, h1, one]
    simp only [e]
    exact h
theorem defM_ok {fuel : Nat} {f : FuncId} {fn : Func} (hmix : P.follows .mixedOrders = true) (hf : P.funcs[f]? = some fn) (hc : ∀ (ars : Array Value) w, (callFunc f ars).run P w = .ok (.enter f ars) w) : DMOk P G f (defM P G fuel fn) := by
  intro hd hok args md hp k r hr
  unfold defM at hr
  cases hb : fn.body with
  | none => simp only [hb] at hr; cases hr
  | some c =>
  simp only [hb] at hr
  generalize hlo : (fun d => !(loOf fn c).testBit d) = lo at hr
  generalize hdt : digs fn.ntmps = dt at hr
  split at hr
  · rename_i hcap h4
    have hcap' : fn.ntmps < 4 ^ dt := by simpa [Nat.blt_eq] using hcap
    have h4' : fn.results.toList.length ≤ 5 := Nat.le_of_ble_eq_true h4
    have fin : ∀ (x : Ex) (t' : Tr) (hp2 : HP) (md' : AV), (match x, getT (path dt fn.ntmps) t' with
        | .normal, .u => (resL P dt fn.ntmps fn.results.toList).run t' hp2 fun l => oneOf l fun _ => k md' hp2
        | .ret, .u => (resL P dt fn.ntmps fn.results.toList).run t' hp2 fun l => oneOf l fun _ => k md' hp2
        | _, _ => none : R) = some r → k md' hp2 = some r ∧ (x = .normal ∨ x = .ret) ∧ ∀ φ (B : Bse hd.y.s) (a : Act) w, FR φ dt fn.ntmps lo t' a → WH φ B hp2 w → a.defers = [] ∧ ∃ v, (results fn a.tmps).run P w = .ok v w := by
      intro x t' hp2 md' h
      have key : getT (path dt fn.ntmps) t' = .u → (resL P dt fn.ntmps fn.results.toList).run t' hp2 (fun l => oneOf l fun _ => k md' hp2) = some r → k md' hp2 = some r ∧ ∀ φ (B : Bse hd.y.s) (a : Act) w, FR φ dt fn.ntmps lo t' a → WH φ B hp2 w → a.defers = [] ∧ ∃ v, (results fn a.tmps).run P w = .ok v w := by
        intro hu h1
        obtain ⟨l, h5, h6⟩ := resL_some (lo := lo) h1
        obtain ⟨v, q1, q2⟩ := results_ok (P := P) (fn := fn) h4' h5
        refine ⟨q1, fun φ B a w hfr hw => ⟨?_, ?_⟩⟩
        · have := hfr.df
          rw [hu] at this
          exact this
        · obtain ⟨vs, v1, v2, v3⟩ := h6 φ B a w hfr hw
          obtain ⟨v', e, _⟩ := q2 φ a.tmps w vs v1 v2 v3
          exact ⟨v', e⟩
      split at h
      · rename_i hu
        obtain ⟨q1, q2⟩ := key hu h
        exact ⟨q1, .inl rfl, q2⟩
      · rename_i hu
        obtain ⟨q1, q2⟩ := key hu h
        exact ⟨q1, .inr rfl, q2⟩
      · cases h
    have plain : (plainM P G fuel fn dt lo c).run hd args md hp k = some r → ∃ md' hp', k md' hp' = some r ∧ ∀ φ (B : Bse hd.y.s) w (ars : Array Value) u, Glo G φ → WH φ B hp w → VL φ args ars.toList → ModeR φ md u →
        (callFunc f ars).run P w = .ok (.enter f ars) w ∧ CallsD P f ars u w fun e u' w' => (∃ v, e = .returned v) ∧ ∃ ψ, ModeR ψ md' (settle u') ∧ StH φ hp w ψ hp' w' ∧ WH ψ B hp' w' := by
      intro hp0
      have hr' : (match Nat.ble args.len fn.ntmps with
          | true => (bodyM P G fuel fn dt lo c).run hd (initT dt lo args 0 .e) hp fun x t hp => match x, getT (path dt fn.ntmps) t with
            | .normal, .u => (resL P dt fn.ntmps fn.results.toList).run t hp fun l => oneOf l fun _ => k md hp
            | .ret, .u => (resL P dt fn.ntmps fn.results.toList).run t hp fun l => oneOf l fun _ => k md hp
            | _, _ => none
          | false => none : R) = some r := hp0
      split at hr'
      · rename_i hle
        have hle' : args.len ≤ fn.ntmps := Nat.le_of_ble_eq_true hle
        obtain ⟨x, t', hp1, h1, h2⟩ := (bodyM_ok (fuel := fuel) (lo := lo) (dt := dt) (fn := fn) (G := G) hmix c).wp hok hr'
        obtain ⟨q1, q2, q3⟩ := fin x t' hp1 md h1
        refine ⟨md, hp1, q1, fun φ B w ars u g1 hw hargs hmd => ⟨hc ars w, ?_⟩⟩
        refine CallsD.mono (callsD_of_wp (R := fun e w' => (∃ v, e = .returned v) ∧ ∃ ψ, More φ ψ ∧ StH φ hp w ψ hp1 w' ∧ WH ψ B hp1 w') hf hb ?_) fun e u' w' he => ?_
        · refine h2 φ B _ w g1 (enter_ok hcap' hargs hle') hw _ fun ψ a' w' x' f0 f1 f2 f3 => ?_
          obtain ⟨s1, v, s2⟩ := q3 ψ B a' w' f1 f3
          rcases q2 with e | e
          · subst e
            have : x' = .normal := f0
            subst this
            exact ⟨s1, v, s2, ⟨v, rfl⟩, ψ, f2.more, f2, f3⟩
          · subst e
            have : x' = .ret := f0
            subst this
            exact ⟨s1, v, s2, ⟨v, rfl⟩, ψ, f2.more, f2, f3⟩
        · obtain ⟨hu, hret, ψ, hm, hs, hw'⟩ := he
          subst hu
          refine ⟨hret, ψ, ?_, hs, hw'⟩
          unfold ModeR at hmd ⊢
          split at hmd
          · subst hmd; rfl
          · obtain ⟨v', e, hv⟩ := hmd
            subst e
            exact ⟨v', rfl, hv.more hm⟩
          · exact hmd.elim
      · cases hr'
    split at hr
    · rename_i ops rest hsplit
      split at hr
      · rename_i o os hops
        split at hr
        · rename_i d hrec hdst
          split at hr
          · rename_i hd0
            have hd0' : d < fn.ntmps := by simpa [Nat.blt_eq] using hd0
            have hlo2 : (!(loOf fn c).testBit d) = lo d := congrFun hlo d
            rw [hlo2] at hr
            have hr' : (match Nat.ble args.len fn.ntmps with
                | true => recV md fun v => (opsM G dt fn.ntmps lo (opsOf P G fn dt) (fun _ _ => none) ops os [some d]).run hd.off [v] (Bool.rec ((initT dt lo args 0 .e).set (path dt d) v) (initT dt lo args 0 .e) (lo d)) hp fun x t hp => match x with
                  | .normal => (cmL (bodyM P G fuel fn dt lo) rest).run hd t hp fun x t hp => match x, getT (path dt fn.ntmps) t with
                    | .normal, .u => (resL P dt fn.ntmps fn.results.toList).run t hp fun l => oneOf l fun _ => k .nil hp
                    | .ret, .u => (resL P dt fn.ntmps fn.results.toList).run t hp fun l => oneOf l fun _ => k .nil hp
                    | _, _ => none
                  | _ => none
                | false => none : R) = some r := hr
            split at hr'
            · rename_i hle
              have hle' : args.len ≤ fn.ntmps := Nat.le_of_ble_eq_true hle
              have hv : ∃ v, (opsM G dt fn.ntmps lo (opsOf P G fn dt) (fun _ _ => none) ops os [some d]).run hd.off [v] (Bool.rec ((initT dt lo args 0 .e).set (path dt d) v) (initT dt lo args 0 .e) (lo d)) hp (fun x t hp => match x with
                  | .normal => (cmL (bodyM P G fuel fn dt lo) rest).run hd t hp fun x t hp => match x, getT (path dt fn.ntmps) t with
                    | .normal, .u => (resL P dt fn.ntmps fn.results.toList).run t hp fun l => oneOf l fun _ => k .nil hp
                    | .ret, .u => (resL P dt fn.ntmps fn.results.toList).run t hp fun l => oneOf l fun _ => k .nil hp
                    | _, _ => none
                  | _ => none) = some r ∧ ∀ φ u, ModeR φ md u → ∃ v' u', VR φ v v' ∧ ((u = .returning ∧ v' = .nilIface ∧ u' = .returning) ∨ (u = .panicking (one v') ∧ u' = .panicking [{ v := v', recovered := true }])) ∧ settle u' = .returning := by
                unfold recV at hr'
                split at hr'
                · exact ⟨_, hr', fun φ u hu => ⟨.nilIface, .returning, rfl, .inl ⟨hu, rfl, rfl⟩, rfl⟩⟩
                · exact ⟨_, hr', fun φ u hu => by
                    obtain ⟨v', e, q⟩ := hu
                    exact ⟨v', _, q, .inr ⟨e, rfl⟩, rfl⟩⟩
                · cases hr'
              obtain ⟨v, hv1, hv2⟩ := hv
              obtain ⟨x, t', hp1, h1, h2⟩ := opsM_gen (P := P) (cm := false) (fun ds o q h => opsOf_ok h) (fun ds o F h => by cases h) ops false (fun Q l a w => ∀ QS CS, Q = (fun e a w => QS e a CS w) → ∀ j, ops.toList.drop j = l → wpOpsS P ops QS (List.range' j l.length) a CS w)
                (fun Q a w h QS CS hQ j hj => by subst hQ; unfold wpOpsS; exact h)
                (fun Q o l a w h QS CS hQ j hj => by
                  have hj0 : ops[j]? = some o := by
                    rw [← Array.getElem?_toList]
                    have := congrArg (fun l => l[0]?) hj
                    simpa using this
                  rw [List.length_cons, List.range'_succ]
                  refine wpOpsS_step hj0 fun K hK => ?_
                  subst hQ
                  have off : ∀ {K : Act → World → Prop} {Q}, OWC false false P o a w K Q → o.wp P a w K Q := fun {K Q} h => (h.resolve_right fun h => by cases h.1).resolve_right fun h => by cases h.1
                  have h9 := h K fun a w hW => hK a w (hW QS CS rfl (j + 1) (by rw [← List.drop_drop, hj]; rfl))
                  split at h9
                  · rename_i hwt; rw [if_pos hwt]; exact off h9
                  · rename_i hwt; rw [if_neg hwt]; exact h9) os [some d] hd.off rfl hok.off _ _ hp _ r hv1
              cases x with
              | normal =>
                obtain ⟨x2, t2, hp2, h3, h4⟩ := cmL_ok (fun c => bodyM_ok (fuel := fuel) (lo := lo) (dt := dt) (fn := fn) (G := G) hmix c) rest hd hok _ _ _ r h1
                obtain ⟨q1, q2, q3⟩ := fin x2 t2 hp2 .nil h3
                refine ⟨.nil, hp2, q1, fun φ B w ars u g1 hw hargs hmd => ⟨hc ars w, ?_⟩⟩
                obtain ⟨v', u', hvr, hmode, hset⟩ := hv2 φ u hmd
                refine callsD_of_wpS hf hb fun c₀ cs hc0 => ?_
                subst hc0
                have hfr0 := enter_ok (lo := lo) (dt := dt) hcap' hargs hle'
                refine split_wpS hsplit fun QS hQS => wpOpsS_rec hops hrec hmode ?_
                refine h2 φ B _ w g1 ?_ ?_ hw _ (fun ψ a1 w1 x1 f0 f1 f2 f3 => ?_) _ _ rfl 1 (by rw [hops]; rfl)
                · rw [hdst]
                  cases hl : lo d with
                  | false => exact hfr0.put hd0' hl hvr
                  | true => exact hfr0.put_lo hd0' hl
                · rw [hdst]
                  exact EnvR.put (EnvR.nil φ [] _) hvr (some d) (fun d' e => by cases e; rw [hfr0.sz]; exact hd0')
                · have : x1 = .normal := f0
                  subst this
                  refine hQS _ _ _ _ ?_
                  refine h4 ψ B _ w1 (g1.more f2.more) f1 f3 _ fun χ a2 w2 x3 e0 e1 e2 e3 => ?_
                  obtain ⟨s1, v3, s2⟩ := q3 χ B a2 w2 e1 e3
                  have hend : ∃ ψ, ModeR ψ .nil (settle u') ∧ StH φ hp w ψ hp2 w2 ∧ WH ψ B hp2 w2 := ⟨χ, hset, f2.trans e2, e3⟩
                  rcases q2 with e | e
                  · subst e
                    have : x3 = .normal := e0
                    subst this
                    exact ⟨s1, u', rfl, v3, s2, ⟨v3, rfl⟩, hend⟩
                  · subst e
                    have : x3 = .ret := e0
                    subst this
                    exact ⟨s1, u', rfl, v3, s2, ⟨v3, rfl⟩, hend⟩
              | exit i => cases h1
              | ret => cases h1
              | pan v => cases h1
            · cases hr'
          · cases hr
        · exact plain hr
      · exact plain hr
    · exact plain hr
  · cases hr
end
structure Ent (P : Program) (G : Nat) where
  f : FuncId
  m : FM
  d : DM
  ok : FMOk P G f m
  okD : DMOk P G f d
  own : Bool
  okE : own = true → ∀ (ars : Array Value) w, (callFunc f ars).run P w = .ok (.enter f ars) w
inductive FTree (P : Program) (G : Nat) where
  | leaf
  | node (l : FTree P G) (e : Ent P G) (r : FTree P G)
section
variable {P : Program} {G : Nat}
noncomputable def FTree.find (f : FuncId) : FTree P G → Option (Ent P G)
  | .leaf => none
  | .node l e r => match Nat.blt f e.f with
    | true => l.find f
    | false => match Nat.beq f e.f with
      | true => some e
      | false => r.find f
theorem FTree.find_f {f : FuncId} : ∀ {T : FTree P G} {e : Ent P G}, T.find f = some e → e.f = f
  | .leaf, e, h => by cases h
  | .node l e0 r, e, h => by
    unfold FTree.find at h
    split at h
    · exact FTree.find_f h
    · split at h
      · rename_i hb
        cases h
        exact (Nat.eq_of_beq_eq_true hb).symm
      · exact FTree.find_f h
noncomputable def hdM (T : FTree P G) (fuel : Nat) : HdB :=
  Nat.rec (motive := fun _ => HdB) ⟨fun _ _ _ _ _ _ => none, fun _ _ _ _ _ _ => none, fun _ => false⟩ (fun _ ih => ⟨fun y f args hp k kp => Option.rec (motive := fun _ => R) none (fun e => e.m.run ⟨ih, y⟩ args hp k kp) (T.find f), fun y f args md hp k => Option.rec (motive := fun _ => R) none (fun e => e.d.run ⟨ih, y⟩ args md hp k) (T.find f),
    fun f => Option.rec (motive := fun _ => Bool) false (fun e => e.own) (T.find f)⟩) fuel
theorem hdM_ok (T : FTree P G) : ∀ fuel, HdOkB P G (hdM T fuel)
  | 0 => ⟨fun y hy => ⟨fun f args hp k kp r h => (by cases h), fun f args md hp k r h => (by cases h)⟩, fun f h => by cases h⟩
  | fuel + 1 => by
    have ih := hdM_ok T fuel
    refine ⟨fun y hy => ⟨fun f args hp k kp r h => ?_, fun f args md hp k r h => ?_⟩, fun f h => ?_⟩
    · have h' : (Option.rec (motive := fun _ => R) none (fun e => e.m.run ⟨hdM T fuel, y⟩ args hp k kp) (T.find f) : R) = some r := h
      cases he : T.find f with
      | none => rw [he] at h'; cases h'
      | some e =>
        rw [he] at h'
        have hf := FTree.find_f he
        subst hf
        exact e.ok ⟨hdM T fuel, y⟩ ⟨hy, ih⟩ args hp k kp r h'
    · have h' : (Option.rec (motive := fun _ => R) none (fun e => e.d.run ⟨hdM T fuel, y⟩ args md hp k) (T.find f) : R) = some r := h
      cases he : T.find f with
      | none => rw [he] at h'; cases h'
      | some e =>
        rw [he] at h'
        have hf := FTree.find_f he
        subst hf
        exact e.okD ⟨hdM T fuel, y⟩ ⟨hy, ih⟩ args md hp k r h'
    · have h' : (Option.rec (motive := fun _ => Bool) false (fun e => e.own) (T.find f) : Bool) = true := h
      cases he : T.find f with
      | none => rw [he] at h'; cases h'
      | some e =>
        rw [he] at h'
        have hf := FTree.find_f he
        subst hf
        exact e.okE h'
noncomputable def y0 : Ys := ⟨[], false, fun _ _ _ _ => none⟩
theorem y0_ok : YOk P G y0 := fun q args hp k r h => by cases h
theorem hd0_ok (T : FTree P G) (fuel : Nat) : HdOk P G ⟨hdM T fuel, y0⟩ := ⟨y0_ok, hdM_ok T fuel⟩
noncomputable def Ent.of (fuel : Nat) (f : FuncId) {fn : Func} (hmix : P.follows .mixedOrders = true) (hf : P.funcs[f]? = some fn) (hc : ∀ (ars : Array Value) w, (callFunc f ars).run P w = .ok (.enter f ars) w) : Ent P G :=
  ⟨f, funcM P G fuel fn, defM P G fuel fn, funcM_ok hmix hf hc, defM_ok hmix hf hc, true, fun _ => hc⟩
noncomputable def Ent.sum (f : FuncId) (F : AV → HP → KV → R) (h : ∀ args hp k r, F args hp k = some r → ∃ v hp', k v hp' = some r ∧ ∀ {sts : List Site} φ (B : Bse sts) w (ars : Array Value), Glo G φ → WH φ B hp w → VL φ args ars.toList → CallOk P f ars w (Aft φ B hp w v hp')) : Ent P G :=
  ⟨f, .mk fun _ args hp k _ => F args hp k, .mk fun _ _ _ _ _ => none, fun hd _ args hp k kp r hr => .inl (let ⟨v, hp', h1, h2⟩ := h args hp k r hr; ⟨v, hp', h1, fun φ B w ars => h2 φ B w ars⟩), (fun hd _ args md hp k r hr => by cases hr), false, fun h => by cases h⟩
end
end Go.Proofs.YtknjkljigmepjaaGreatDoor.Clo
end
section
namespace Go.Proofs.YtknjkljigmepjaaGreatDoor.Clo
open Go.RowKit
set_option linter.unusedVariables false
set_option linter.unusedSimpArgs false
set_option linter.constructorNameAsVariable false
variable [Tabs]
noncomputable def posF (c : Nat) (l : List Nat) : Nat → Int :=
  List.rec (motive := fun _ => Nat → Int) (fun _ => -1) (fun x _ ih i => Bool.rec (ih (Nat.succ i)) (Int.ofNat i) (Nat.beq x c)) l
theorem posF_eq {c : Nat} (hc : c < 256) : ∀ (l : List Nat) (i : Nat), B256 l → posF c l i = if Lib.indexByte (l.map UInt8.ofNat) (UInt8.ofNat c) = -1 then -1 else Lib.indexByte (l.map UInt8.ofNat) (UInt8.ofNat c) + i
  | [], i, _ => rfl
  | x :: l, i, hb => by
    have hx := hb x (by simp)
    show (Bool.rec (posF c l (Nat.succ i)) (Int.ofNat i) (Nat.beq x c) : Int) = _
    have hge := Lib.indexByte_ge (l.map UInt8.ofNat) (UInt8.ofNat c)
    cases h : Nat.beq x c with
    | true =>
      have := Nat.eq_of_beq_eq_true h
      subst this
      simp [Lib.indexByte]
    | false =>
      have hne : (UInt8.ofNat x == UInt8.ofNat c) = false := Bool.eq_false_iff.2 fun hh => by
        have := ofNat_inj hx hc (by simpa using hh)
        subst this
        rw [Nat.beq_refl] at h
        cases h
      simp only [List.map_cons, Lib.indexByte, hne, Bool.false_eq_true, if_false]
      rw [posF_eq hc l (Nat.succ i) fun y hy => hb y (by simp [hy])]
      by_cases hm : Lib.indexByte (l.map UInt8.ofNat) (UInt8.ofNat c) = -1
      · simp [hm]
      · have hm' : (Lib.indexByte (l.map UInt8.ofNat) (UInt8.ofNat c) == -1) = false := by simpa using hm
        simp only [hm, hm', if_false, Bool.false_eq_true]
        rw [if_neg (by omega)]
        show _ + ((i + 1 : Nat) : Int) = _
        omega
section
variable {P : Program} {G : Nat}
theorem args1 {φ : Id → Option Plc} {x : AV} {ars : Array Value} (h : VL φ (.cons x .nil) ars.toList) : ∃ v, ars = #[v] ∧ VR φ x v := by
  obtain ⟨v, vs, e, h1, h2⟩ := h
  have : vs = [] := h2
  subst this
  exact ⟨v, by apply Array.ext'; simpa using e, h1⟩
theorem args2 {φ : Id → Option Plc} {x y : AV} {ars : Array Value} (h : VL φ (.cons x (.cons y .nil)) ars.toList) : ∃ v u, ars = #[v, u] ∧ VR φ x v ∧ VR φ y u := by
  obtain ⟨v, vs, e, h1, u, us, e2, h2, h3⟩ := h
  have : us = [] := h3
  subst this e2
  exact ⟨v, u, by apply Array.ext'; simpa using e, h1, h2⟩
variable {f : FuncId} {fn : Func}
noncomputable def entIndexByte (hf : P.funcs[f]? = some fn) (hname : (fn.name == "runtime.NumGoroutine") = false) (hb : fn.body.isNone = true) (hn : Extern.findNext fn = none) (he : Extern.find fn = some Extern.BytealgIndexByte.indexByte) : Ent P G :=
  .sum f (fun args hp k => match args with
    | .cons (.s l) (.cons (.i .u8 (.ofNat c)) .nil) => match Nat.blt c 256 with
      | true => k (.i .i64 (posF c l 0)) hp
      | false => none
    | _ => none) (fun args hp k r hr => by
    split at hr
    · rename_i l c
      split at hr
      · rename_i hc
        have hc' : c < 256 := by simpa [Nat.blt_eq] using hc
        refine ⟨_, hp, hr, fun φ B w ars g1 hw hargs => ?_⟩
        obtain ⟨v, u, rfl, ⟨e1, b1⟩, e2⟩ := args2 hargs
        have e2' : u = .int .u8 (Int.ofNat c) := e2
        subst e1 e2'
        refine .inr ⟨.int .i64 (posF c l 0), w, ?_, φ, rfl, Step.refl, hw⟩
        rw [run_callFunc_extern hf hname hb hn he]
        rw [show (#[Value.string (bytesOf l), Value.int .u8 (Int.ofNat c)] : Array Value) = #[.string (bytesOf l), .int .u8 ((c : Nat) : Int)] from rfl, Lib.run_indexByteString]
        have e3 : (bytesOf l).data.toList = l.map UInt8.ofNat := by simp [bytesOf]
        have e4 : ((c : Nat) : Int).toNat.toUInt8 = UInt8.ofNat c := by rw [Int.toNat_natCast]
        rw [e3, e4, posF_eq hc' l 0 b1]
        simp only [Result.andThen]
        congr 3
        split
        · rename_i hm; rw [hm]
        · simp
      · cases hr
    · cases hr)
noncomputable def entNoEscape (hf : P.funcs[f]? = some fn) (hname : (fn.name == "runtime.NumGoroutine") = false) (hb : fn.body.isNone = true) (hn : Extern.findNext fn = none) (he : Extern.find fn = some Extern.AbiNoEscape.same) : Ent P G :=
  .sum f (fun args hp k => match args with
    | .cons x .nil => k x hp
    | _ => none) (fun args hp k r hr => by
    split at hr
    · rename_i x
      refine ⟨_, hp, hr, fun φ B w ars g1 hw hargs => ?_⟩
      obtain ⟨v, rfl, hv⟩ := args1 hargs
      refine .inr ⟨v, w, ?_, φ, hv, Step.refl, hw⟩
      rw [run_callFunc_extern hf hname hb hn he]
      rfl
    · cases hr)
noncomputable def entMapsClone (hf : P.funcs[f]? = some fn) (hname : (fn.name == "runtime.NumGoroutine") = false) (hb : fn.body.isNone = true) (hn : Extern.findNext fn = none) (he : Extern.find fn = some Extern.MapsClone.clone) : Ent P G :=
  .sum f (fun args hp k => match args with
    | .cons (.ifc t (.mp r)) .nil => hp.on fun mem nx => onTab mem r fun l => match last nx with
      | true => none
      | false => k (.ifc t (.mp nx)) (.mk (mem.set nx (.tab l)) (inc nx))
    | _ => none) (fun args hp k x hr => by
    split at hr
    · rename_i t r
      cases hp with
      | mk mem nx =>
      obtain ⟨l, hl, h2⟩ := onTab_some (show onTab mem r _ = some x from hr)
      split at h2
      · cases h2
      · rename_i hlast
        refine ⟨_, _, h2, fun φ B w ars g1 hw hargs => ?_⟩
        obtain ⟨v, rfl, u, e1, g, hg, e2⟩ := args1 hargs
        subst e1 e2
        have hw' : WR φ B mem nx w := hw
        obtain ⟨ob, h7, es, c, h8, h9⟩ := hw'.blk r _ g hl hg
        subst h8
        obtain ⟨s1, s2⟩ := WR.new hw' hlast (x := .tab l) (o := .map es c) (K := (0, 0)) ⟨es, c, rfl, h9⟩ (.alloc _ _)
        refine .inr ⟨.iface t (.map (some w.heap.size)), _, ?_, _, ⟨.map (some w.heap.size), rfl, _, ext_same φ nx _, rfl⟩, s2, s1⟩
        rw [run_callFunc_extern hf hname hb hn he]
        have hdef : Extern.MapsClone.clone #[.iface t (.map (some g.1))] = (do
            match (← getObj g.1) with
            | .map entries clock => Pure.pure (.iface t (.map (some (← newObj (.map entries clock)))))
            | _ => stuck "maps.clone: a map expected") := rfl
        rw [hdef]
        simp [getObj, Sem.run, h7, newObj]
    · cases hr)
end
end Go.Proofs.YtknjkljigmepjaaGreatDoor.Clo
end
section
namespace Go.Proofs.YtknjkljigmepjaaGreatDoor.Clo
open Go.RowKit
set_option linter.unusedVariables false
set_option linter.unusedSimpArgs false
variable [Tabs]
theorem num_dig (k : Nat) (r : Id) : num (dig k :: r) = 4 * num r + k % 4 := by
  have : k % 4 < 4 := Nat.mod_lt _ (by decide)
  rcases (by omega : k % 4 = 0 ∨ k % 4 = 1 ∨ k % 4 = 2 ∨ k % 4 = 3) with h | h | h | h <;> simp [dig, num, h]
theorem num_path : ∀ (f k : Nat), k < 4 ^ f → num (path f k) = k
  | 0, k, h => by simp at h; subst h; rfl
  | f + 1, k, h => by
    unfold path
    rw [num_dig, num_path f (k / 4) (by rw [Nat.pow_succ] at h; omega)]
    omega
theorem get_e (r : Id) : (T4.e : Mem).get r = none := by cases r <;> rfl
noncomputable def mkMem (l : List (Nat × Blk)) : Mem := List.rec (motive := fun _ => Mem) .e (fun p _ ih => T4.set (path DB p.1) p.2 ih) l
theorem mem_get : ∀ {l : List (Nat × Blk)} {r : Id} {x : Blk}, (mkMem l).get r = some x → ∃ p ∈ l, r = path DB p.1 ∧ x = p.2
  | [], r, x, h => by rw [show mkMem [] = .e from rfl, T4.get_e] at h; cases h
  | p :: l, r, x, h => by
    have h' : (T4.set (path DB p.1) p.2 (mkMem l)).get r = some x := h
    by_cases e : r = path DB p.1
    · subst e
      rw [T4.get_set_same] at h'
      cases h'
      exact ⟨p, by simp, rfl, rfl⟩
    · obtain ⟨q, h1, h2⟩ := mem_get (T4.get_of_set _ _ _ _ _ h' e)
      exact ⟨q, by simp [h1], h2⟩
noncomputable def kOf (g : Nat) : Nat := match (mkMem Tabs.m).get (path DB g) with
  | some b => b.cl
  | none => 0
noncomputable def glob (G : Nat) (r : Id) : Option Plc := by
  classical
  exact if r.length = DB ∧ num r < G then some (num r, kOf (num r), 0) else none
theorem glob_at {G g : Nat} (hG : G < 4 ^ DB) (hg : g < G) : glob G (path DB g) = some (g, kOf g, 0) := by
  have := num_path DB g (Nat.lt_trans hg hG)
  unfold glob
  rw [if_pos ⟨path_len _ _, by rw [this]; exact hg⟩, this]
theorem glob_some {G : Nat} {r : Id} {g : Plc} (h : glob G r = some g) : r.length = DB ∧ num r < G ∧ g = (num r, kOf (num r), 0) := by
  unfold glob at h
  split at h
  · rename_i h1; cases h; exact ⟨h1.1, h1.2, rfl⟩
  · cases h
def okG [T : Tabs] (G : Nat) : Bool := Nat.blt G (4 ^ DB) && T.m.all fun p => Nat.blt p.1 G
theorem okG_lt {G : Nat} (h : okG G = true) : G < 4 ^ DB := by
  simp only [okG, Bool.and_eq_true] at h
  simpa [Nat.blt_eq] using h.1
theorem okG_tab {G : Nat} (h : okG G = true) : ∀ p ∈ Tabs.m, p.1 < G := fun p hp => by
  simp only [okG, Bool.and_eq_true, List.all_eq_true] at h
  simpa [Nat.blt_eq] using h.2 p hp
theorem TabsR.up {b : Nat} {w : World} (h : TabsR b w) {b' : Nat} (k : b ≤ b') : TabsR b' w := fun p hp => by
  obtain ⟨h1, h2⟩ := h p hp
  exact ⟨Nat.lt_of_lt_of_le h1 k, h2⟩
theorem WR.tabsW {φ : Id → Option Plc} {sts : List Site} {B : Bse sts} {h : Mem} {nx : Id} {w : World} (hw : WR φ B h nx w) : TabsR w.heap.size w := hw.tabs.up hw.bsz
theorem glob_start {G : Nat} (hG : okG G = true) {w : World} (hw : G ≤ w.heap.size) (ht : TabsR w.heap.size w) : WR (glob G) (⟨w.heap.size, []⟩ : Bse []) (mkMem Tabs.m) (path DB G) w where
  len := path_len _ _
  fresh r hr := by
    have hlt := okG_lt hG
    rcases hr with hr | hr
    · cases e : (mkMem Tabs.m).get r with
      | none => exact absurd e hr
      | some x =>
        obtain ⟨p, hp, e1, e2⟩ := mem_get e
        have := okG_tab hG p hp
        rw [e1, num_path DB G hlt, num_path DB p.1 (by omega)]
        exact ⟨path_len _ _, this⟩
    · cases e : glob G r with
      | none => exact absurd e hr
      | some g =>
        obtain ⟨h1, h2, _⟩ := glob_some e
        rw [num_path DB G hlt]
        exact ⟨h1, h2⟩
  blk r x g hr hg := by
    obtain ⟨p, hp, e1, e2⟩ := mem_get hr
    obtain ⟨_, h2, rfl⟩ := glob_some hg
    have hlt := okG_lt hG
    have := okG_tab hG p hp
    have hn : num r = p.1 := by rw [e1, num_path DB p.1 (by omega)]
    obtain ⟨_, _, o, h3, h4⟩ := ht p hp
    refine ⟨o, by rw [hn]; exact h3, ?_⟩
    have hk : kOf (num r) = x.cl := by
      unfold kOf
      rw [hn, ← e1, hr]
    rw [e2]
    show p.2.says _ (kOf (num r), 0) o
    rw [hk, e2]
    exact h4 _
  inj r r' x x' g g' hr hr' hg hg' he := by
    obtain ⟨h1, _, rfl⟩ := glob_some hg
    obtain ⟨h3, _, rfl⟩ := glob_some hg'
    exact num_inj _ _ (h1.trans h3.symm) he
  lt r g hg := by
    obtain ⟨_, h2, rfl⟩ := glob_some hg
    exact Nat.lt_of_lt_of_le h2 hw
  base r x g hr hx := by
    obtain ⟨p, hp, e1, e2⟩ := mem_get hr
    obtain ⟨_, h2, _⟩ := ht p hp
    rw [e2, h2] at hx
    cases hx
  bsz := Nat.le_refl _
  loops := trivial
  tabs := ht
section
variable {P : Program} {G : Nat}
noncomputable def runC (T : FTree P G) (fuel : Nat) (f : FuncId) (args : AV) : R := (Hd.c ⟨hdM T fuel, y0⟩) f args (.mk (mkMem Tabs.m) (path DB G)) (fun v hp => some (v, hp)) (fun _ _ => none)
theorem calls_of_run {T : FTree P G} {fuel : Nat} {f : FuncId} {args v : AV} {hp : HP} (hG : okG G = true) (hc : ∀ (ars : Array Value) w, (callFunc f ars).run P w = .ok (.enter f ars) w) (h : runC T fuel f args = some (v, hp))
    (w : World) (hw : G ≤ w.heap.size) (ht : TabsR w.heap.size w) (ars : Array Value) (ha : ∀ φ, VL φ args ars.toList) : Calls P f ars w fun e w' => ∃ v', e = .returned v' ∧ (∃ φ, VR φ v v') ∧ Below w.heap.size w w' := by
  rcases (hd0_ok T fuel).c f args _ _ _ _ h with ⟨v1, hp1, h1, h2⟩ | ⟨v1, hp1, h1, h2⟩
  · cases h1
    have h0 : WH (glob G) (⟨w.heap.size, []⟩ : Bse []) (.mk (mkMem Tabs.m) (path DB G)) w := glob_start hG hw ht
    rcases h2 (glob G) ⟨w.heap.size, []⟩ w ars (fun g hg => ⟨_, glob_at (okG_lt hG) hg⟩) h0 (ha _) with ⟨_, h3⟩ | ⟨v2, w2, h3, _⟩
    · refine h3.mono fun e w' ⟨v', e1, ψ, h4, h5, h6⟩ => ⟨v', e1, ⟨ψ, h4⟩, ?_⟩
      exact Step.below h0 h5
    · rw [hc ars w] at h3
      cases h3
  · cases h1
noncomputable def runTrue (T : FTree P G) (fuel : Nat) (f : FuncId) : Bool := match runC T fuel f .nil with
  | some (.b true, _) => true
  | _ => false
theorem calls_true {T : FTree P G} {fuel : Nat} {f : FuncId} (hG : okG G = true) (hc : ∀ (ars : Array Value) w, (callFunc f ars).run P w = .ok (.enter f ars) w) (h : runTrue T fuel f = true) (w : World) (hw : G ≤ w.heap.size) (ht : TabsR w.heap.size w) :
    Calls P f #[] w fun e w' => e = .returned (.bool true) ∧ Below w.heap.size w w' := by
  unfold runTrue at h
  split at h
  · rename_i hp hr
    refine (calls_of_run hG hc hr w hw ht #[] (fun φ => rfl)).mono fun e w' ⟨v', e1, ⟨φ, h1⟩, h2⟩ => ⟨?_, h2⟩
    have : v' = .bool true := h1
    rw [e1, this]
  · cases h
end
end Go.Proofs.YtknjkljigmepjaaGreatDoor.Clo
end
section
namespace Go.Proofs.YtknjkljigmepjaaGreatDoor.Clo
open Go.RowKit
set_option linter.unusedVariables false
set_option linter.unusedSimpArgs false
set_option linter.constructorNameAsVariable false
variable [Tabs]
def AV.plain : AV → Bool
  | .nil | .inil | .fnil | .mn | .sn | .pn | .s _ | .b _ | .i _ _ => true
  | .cons x r => x.plain && r.plain
  | .tu l => l.plain
  | .ag l => l.plain
  | _ => false
theorem AV.plain_says {φ ψ : Id → Option Plc} : ∀ {x : AV}, x.plain = true → x.says φ = x.says ψ
  | .u, h => by cases h
  | .nil, h => rfl
  | .cons x r, h => by
    simp only [AV.plain, Bool.and_eq_true] at h
    simp only [AV.says]
    rw [AV.plain_says (ψ := ψ) h.1, AV.plain_says (ψ := ψ) h.2]
  | .inil, h => rfl
  | .ifc t x, h => by cases h
  | .fnil, h => rfl
  | .fn _ _ _, h => by cases h
  | .mn, h => rfl
  | .mp _, h => by cases h
  | .tu l, h => by
    simp only [AV.says]
    rw [AV.plain_says (ψ := ψ) (show l.plain = true from h)]
  | .ag l, h => by
    simp only [AV.says]
    rw [AV.plain_says (ψ := ψ) (show l.plain = true from h)]
  | .sn, h => rfl
  | .sl _ _ _ _, h => by cases h
  | .sg _ _ _ _, h => by cases h
  | .pn, h => rfl
  | .p _ _, h => by cases h
  | .s _, h => rfl
  | .b _, h => rfl
  | .i _ _, h => rfl
noncomputable def listSame (l m : List Nat) : Bool :=
  List.rec (motive := fun _ => List Nat → Bool) (fun m => match m with | [] => true | _ => false) (fun x _ ih m => match m with | y :: m => Bool.rec (motive := fun _ => Bool) false (ih m) (Nat.beq x y) | _ => false) l m
theorem listSame_eq : ∀ {l m : List Nat}, listSame l m = true → l = m
  | [], [], _ => rfl
  | [], _ :: _, h => by cases h
  | _ :: _, [], h => by cases h
  | x :: l, y :: m, h => by
    have h' : (Bool.rec (motive := fun _ => Bool) false (listSame l m) (Nat.beq x y) : Bool) = true := h
    cases hb : Nat.beq x y with
    | false => rw [hb] at h'; cases h'
    | true =>
      rw [hb] at h'
      rw [Nat.eq_of_beq_eq_true hb, listSame_eq h']
noncomputable def AV.same (x : AV) : AV → Bool := AV.rec (motive := fun _ => AV → Bool) (fun y => false) (fun y => match y with | .nil => true | _ => false) (fun a0 a1 h0 h1 y => match y with | .cons b0 b1 => Bool.rec (motive := fun _ => Bool) false (h1 b1) (h0 b0) | _ => false) (fun y => match y with | .inil => true | _ => false) (fun a0 a1 h1 y => false) (fun y => match y with | .fnil => true | _ => false) (fun a0 a1 a2 h1 h2 y => false) (fun y => match y with | .mn => true | _ => false) (fun a0 y => false) (fun a0 h0 y => match y with | .tu b0 => h0 b0 | _ => false) (fun a0 h0 y => match y with | .ag b0 => h0 b0 | _ => false) (fun y => match y with | .sn => true | _ => false) (fun a0 a1 a2 a3 y => false) (fun a0 a1 a2 a3 y => false) (fun a0 a1 a2 y => false) (fun a0 y => false) (fun a0 y => false) (fun y => match y with | .pn => true | _ => false) (fun a0 a1 y => false) (fun a0 y => match y with | .s b0 => listSame a0 b0 | _ => false) (fun a0 y => match y with | .b b0 => a0 == b0 | _ => false) (fun a0 a1 y => match y with | .i b0 b1 => Bool.rec (motive := fun _ => Bool) false (decide (a0 = b0)) (eqI a1 b1) | _ => false) x
theorem and_rec {a b : Bool} (h : (Bool.rec (motive := fun _ => Bool) false a b : Bool) = true) : b = true ∧ a = true := by
  cases b with
  | false => cases h
  | true => exact ⟨rfl, h⟩
theorem AV.same_eq : ∀ {x y : AV}, x.same y = true → x = y := by
  intro x
  induction x with
  | cons x r ihx ihr =>
    intro y h
    cases y <;> first | cases h | skip
    obtain ⟨h1, h2⟩ := and_rec h
    rw [ihx h1, ihr h2]
  | tu l ih =>
    intro y h
    cases y <;> first | cases h | skip
    rw [ih h]
  | ag l ih =>
    intro y h
    cases y <;> first | cases h | skip
    rw [ih h]
  | s l =>
    intro y h
    cases y <;> first | cases h | skip
    rw [listSame_eq h]
  | b x =>
    intro y h
    cases y <;> first | cases h | skip
    rw [eq_of_beq h]
  | i k n =>
    intro y h
    cases y <;> first | cases h | skip
    obtain ⟨h1, h2⟩ := and_rec h
    rw [of_decide_eq_true h2, eq_of_beq ((eqI_eq _ _).symm.trans h1)]
  | _ =>
    intro y h
    cases y <;> first | rfl | cases h
noncomputable def keyS (l : List Nat) (acc : Nat) : Nat := List.rec (motive := fun _ => Nat → Nat) (fun acc => acc) (fun x _ ih acc => ih (Nat.add (Nat.mul acc 257) (Nat.succ x))) l acc
noncomputable def AV.key (x : AV) : Nat → Nat := AV.rec (motive := fun _ => Nat → Nat) (fun k => k) (fun k => k) (fun a0 a1 h0 h1 k => h1 (h0 k)) (fun k => k) (fun a0 a1 h1 k => k) (fun k => k) (fun a0 a1 a2 h1 h2 k => k) (fun k => k) (fun a0 k => k) (fun a0 h0 k => h0 k) (fun a0 h0 k => h0 k) (fun k => k) (fun a0 a1 a2 a3 k => k) (fun a0 a1 a2 a3 k => k) (fun a0 a1 a2 k => k) (fun a0 k => k) (fun a0 k => k) (fun k => k) (fun a0 a1 k => k) (fun a0 k => keyS a0 (Nat.succ k)) (fun a0 k => Bool.rec (motive := fun _ => Nat) (Nat.mul k 3) (Nat.add (Nat.mul k 3) 1) a0) (fun a0 a1 k => Nat.add (Nat.mul k 1000003) (Int.natAbs a1)) x
inductive MTree where
  | leaf
  | node (l : MTree) (n : Nat) (args v : AV) (r : MTree)
noncomputable def MTree.find (n : Nat) (args : AV) (T : MTree) : Option AV :=
  MTree.rec (motive := fun _ => Option AV) none (fun _ j a v _ ihl ihr => Bool.rec (motive := fun _ => Option AV) (Bool.rec (motive := fun _ => Option AV) (Bool.rec (motive := fun _ => Option AV) none (some v) (a.same args)) ihr (Nat.blt j n)) ihl (Nat.blt n j)) T
section
variable {P : Program} {G : Nat}
noncomputable def runIs (T : FTree P G) (fuel : Nat) (f : FuncId) (args v : AV) : Bool := match runC T fuel f args with
  | some (v', _) => v'.same v
  | none => false
noncomputable def MTree.all (Q : AV → AV → Bool) : MTree → Bool
  | .leaf => true
  | .node l _ a v r => l.all Q && (Q a v && r.all Q)
theorem MTree.find_some {Q : AV → AV → Bool} {n : Nat} {args v : AV} : ∀ {T : MTree}, T.all Q = true → T.find n args = some v → Q args v = true
  | .leaf, _, h => by cases h
  | .node l j a u r, h, k => by
    simp only [MTree.all, Bool.and_eq_true] at h
    have k' : (Bool.rec (motive := fun _ => Option AV) (Bool.rec (motive := fun _ => Option AV) (Bool.rec (motive := fun _ => Option AV) none (some u) (a.same args)) (r.find n args) (Nat.blt j n)) (l.find n args) (Nat.blt n j) : Option AV) = some v := k
    cases h1 : Nat.blt n j with
    | true => rw [h1] at k'; exact MTree.find_some h.1 k'
    | false =>
      rw [h1] at k'
      cases h2 : Nat.blt j n with
      | true => rw [h2] at k'; exact MTree.find_some h.2.2 k'
      | false =>
        rw [h2] at k'
        cases h3 : a.same args with
        | false => rw [h3] at k'; cases k'
        | true =>
          rw [h3] at k'
          have := AV.same_eq h3
          cases k'
          subst this
          exact h.2.1
noncomputable def known (T : FTree P G) (fuel : Nat) (f : FuncId) (args v : AV) : Bool := args.plain && (v.plain && runIs T fuel f args v)
theorem WR.below {φ : Id → Option Plc} {sts : List Site} {B : Bse sts} {h : Mem} {nx : Id} {w w' : World} (hw : WR φ B h nx w) (k : Below w.heap.size w w') : WR φ B h nx w' ∧ Step φ h nx w φ h nx w' where
  left := ⟨hw.len, hw.fresh, fun r x g h1 h2 => by rw [k.block g.1 (hw.lt r g h2)]; exact hw.blk r x g h1 h2, hw.inj, fun r g h => Nat.lt_of_lt_of_le (hw.lt r g h) k.size, hw.base, Nat.le_trans hw.bsz k.size, hw.loops.mono (.refl _) (LK.same k.block), hw.tabs.keep fun j hj => k.block j (Nat.lt_of_lt_of_le hj hw.bsz)⟩
  right := ⟨.refl _, k.os, k.tape, k.output, k.size, fun g hg _ => k.block g hg, fun _ _ h => h, fun _ _ h k => ⟨h, k⟩, Nat.le_refl _, fun _ _ _ => rfl, LK.same k.block⟩
theorem Glo.size {φ : Id → Option Plc} {sts : List Site} {B : Bse sts} {h : Mem} {nx : Id} {w : World} (g : Glo G φ) (hw : WR φ B h nx w) : G ≤ w.heap.size := by
  cases G with
  | zero => exact Nat.zero_le _
  | succ n =>
    obtain ⟨K, e⟩ := g n (Nat.lt_succ_self n)
    exact hw.lt _ _ e
noncomputable def Ent.memo {T : FTree P G} {fuel : Nat} (e : Ent P G) (M : MTree) (hG : okG G = true) (hc : ∀ (ars : Array Value) w, (callFunc e.f ars).run P w = .ok (.enter e.f ars) w) (h : M.all (known T fuel e.f) = true) : Ent P G :=
  ⟨e.f, .mk fun hd args hp k kp => Option.rec (motive := fun _ => R) (e.m.run hd args hp k kp) (fun v => k v hp) (M.find (args.key 1) args), e.d, (fun hd hok args hp k kp r hr => by
    have hr' : (Option.rec (motive := fun _ => R) (e.m.run hd args hp k kp) (fun v => k v hp) (M.find (args.key 1) args) : R) = some r := hr
    cases hf : M.find (args.key 1) args with
    | none => rw [hf] at hr'; exact e.ok hd hok args hp k kp r hr'
    | some v =>
      rw [hf] at hr'
      have hk := MTree.find_some h hf
      simp only [known, Bool.and_eq_true] at hk
      obtain ⟨p1, p2, p3⟩ := hk
      unfold runIs at p3
      split at p3
      · rename_i v' hp' hrun
        have := AV.same_eq p3
        subst this
        cases hp with
        | mk m nx =>
        refine .inl ⟨_, _, hr', fun φ B w ars g1 hw hargs => .inl ⟨hc ars w, ?_⟩⟩
        have hw' : WR φ B m nx w := hw
        refine (calls_of_run hG hc hrun w (g1.size hw') hw'.tabsW ars fun ψ => ?_).mono fun e' w' ⟨u, e1, ⟨ψ, h1⟩, h2⟩ => ?_
        · show (args.says ψ).2 _
          rw [AV.plain_says (ψ := φ) p1]
          exact hargs
        · obtain ⟨s1, s2⟩ := hw'.below h2
          refine ⟨u, e1, φ, ?_, s2, s1⟩
          show (AV.says φ _).1 _
          rw [AV.plain_says (ψ := ψ) p2]
          exact h1
      · cases p3), e.okD, true, fun _ => hc⟩
end
end Go.Proofs.YtknjkljigmepjaaGreatDoor.Clo
end
