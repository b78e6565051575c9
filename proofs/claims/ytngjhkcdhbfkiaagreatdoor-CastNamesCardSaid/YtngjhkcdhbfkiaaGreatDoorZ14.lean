/- Part 14 of a proof laid in parts, one behind the other; no condition of its own. -/
import Derived.Test.YtngjhkcdhbfkiaaGreatDoorZ13
set_option linter.all false
section
namespace Go.Proofs.YtngjhkcdhbfkiaaGreatDoor.Clo
open Go.RowKit
set_option linter.unusedVariables false
set_option linter.unusedSimpArgs false
set_option linter.constructorNameAsVariable false
section
variable {P : Program} {G dt n : Nat} {ds : List (Option Nat)} {o : Oper}
theorem indexAg_ok {t el : TypeId} {len : Nat} {x y : Operand} {i : TypeInfo} {agg : Bool} (ho : o.op = .index t x y) (hu : P.underlying t = some (.array len el)) (hi : P.info? el = some i) (ha : aggT P el = some agg) :
    PureOk P G dt n ds o (fun e t0 hp k => ((opd G dt n ds x).run e t0).on_ag fun cells => ((opd G dt n ds y).run e t0).on_i fun _ j => onNat j fun j => match Nat.blt j len with
      | true => (match agg with
        | false => cells.atR (Nat.mul j i.size) fun v => k v hp
        | true => Option.rec (motive := fun _ => R) none (fun y => k (.ag y) hp) ((cells.drop (Nat.mul j i.size)).takeO i.size))
      | false => none) :=
  .pure fun e t0 hp k r hr => by
    obtain ⟨cells, hl, h1⟩ := AV.on_ag_some hr
    obtain ⟨kd, j, hj, h2⟩ := AV.on_i_some h1
    obtain ⟨m, rfl, h3⟩ := onNat_some h2
    split at h3
    · rename_i hlt
      have hlt' : m < len := by simpa [Nat.blt_eq] using hlt
      have start : ∀ v, k v hp = some r → (∀ φ (xs : Array Value) (w : World), VL φ cells xs.toList → ∃ v', (part el xs (m * i.size)).run P w = .ok v' w ∧ VR φ v v') → ∃ v, k v hp = some r ∧ ∀ φ (a : Act) w, OpsR G dt n ds φ e t0 a.eval o.op → ∃ v', (execOp a.eval o).run P w = .ok (.value v') w ∧ VR φ v v' := by
        intro v hk hp'
        refine ⟨v, hk, fun φ a w hx => ?_⟩
        obtain ⟨xs, e1, e3⟩ : ∃ xs : Array Value, a.eval x = .agg xs ∧ VL φ cells xs.toList := by have := (hx x (by rw [ho]; simp [Op.operands, Call.operands])); rw [hl] at this; exact this
        have e2 : a.eval y = .int kd (m : Int) := by have := (hx y (by rw [ho]; simp [Op.operands, Call.operands])); rw [hj] at this; exact this
        obtain ⟨v', h5, h6⟩ := hp' φ xs w e3
        refine ⟨v', ?_, h6⟩
        have hso : (sizeOf el).run P w = .ok i.size w := by
          obtain ⟨b, w', q1, q2, q3⟩ := runs_sizeOf (P := P) (w := w) (Q := fun b w' => b = i.size ∧ w' = w) hi ⟨rfl, rfl⟩
          rw [q1, q2, q3]
        unfold execOp
        rw [ho]
        simp only [Instr.index, e1, e2, asIntOf, Sem.run_bind, Sem.run_pure, Result.andThen_ok, run_underlying hu]
        rw [if_pos ⟨Int.natCast_nonneg m, by omega⟩]
        simp only [Sem.run_bind, hso, Result.andThen_ok, Int.toNat_natCast, h5, Sem.run_pure]
      have hpart : ∀ (xs : Array Value) (w : World) (Q : Value → World → Prop), (if agg = true then Q (.agg (xs.extract (m * i.size) (m * i.size + i.size))) w else ∃ v, xs[m * i.size]? = some v ∧ Q v w) → Runs P (part el xs (m * i.size)) w Q := by
        intro xs w Q h
        unfold part
        refine .bind (runs_isAgg ha ?_)
        cases agg with
        | true => exact .bind (runs_sizeOf hi (.pure h))
        | false =>
          obtain ⟨v, h5, h6⟩ := h
          show Runs P (match xs[m * i.size]? with | some v => Pure.pure v | none => stuck "part: no such cell") w Q
          rw [h5]
          exact .pure h6
      cases agg with
      | false =>
        obtain ⟨h4, h5⟩ := AV.atR_some _ h3
        refine start _ h5 fun φ xs w hv => ?_
        have hlen := VL.len hv
        have hget : xs.toList[m * i.size]? = some (xs.toList[m * i.size]'(by rw [hlen]; exact h4)) := List.getElem?_eq_getElem _
        obtain ⟨v', w', q1, q2, q3⟩ := hpart xs w (fun v' w' => w' = w ∧ VR φ (cells.at (m * i.size)) v') ⟨_, by rw [← Array.getElem?_toList]; exact hget, rfl, VL.at hv hget⟩
        subst q2
        exact ⟨v', q1, q3⟩
      | true =>
        cases ht : (cells.drop (Nat.mul m i.size)).takeO i.size with
        | none => rw [ht] at h3; cases h3
        | some y =>
          rw [ht] at h3
          obtain ⟨h4, h5⟩ := AV.takeO_some i.size ht
          refine start (.ag y) h3 fun φ xs w hv => ?_
          obtain ⟨v', w', q1, q2, q3⟩ := hpart xs w (fun v' w' => w' = w ∧ VR φ (.ag y) v') ⟨rfl, _, rfl, by
            rw [h5, Array.toList_extract]
            have := VL.take i.size (VL.drop (m * i.size) hv)
            simpa [List.extract, Nat.add_sub_cancel_left] using this⟩
          subst q2
          exact ⟨v', q1, q3⟩
    · cases h3
theorem buildSl_ok {t el : TypeId} {len : Nat} {parts : Array (Nat × Operand)} {i : TypeInfo} {z : Value} {zc : AV} {L : List (Nat × Nat × GV)} (ho : o.op = .buildSlice t len parts)
    (hu : P.underlying t = some (.slice el)) (hi : P.info? el = some i) (hz : i.zero = some z) (hzs : z.cells.size = i.size) (hzc : (ofConst z).cellsO = some zc) (h24 : len * i.size ≤ 2 ^ 24)
    (hL : plan G dt n ds (fun x => some (x * i.size, i.size)) parts.toList = some L) :
    MakeOk P G dt n ds o (fun e t0 hp k => fillR L e t0 (madeA zc len) fun c => newF el c hp fun r hp => k (.sl r 0 len (some len)) hp) := by
  intro e t0 hp k r hr
  obtain ⟨cells', h1, h2⟩ := fillR_some hL hr
  obtain ⟨m, nx, e', hl, h3⟩ := newF_some h1
  refine ⟨m, nx, _, _, e', hl, rfl, h3, fun φ a w g1 g2 => ?_⟩
  generalize hzz : (Array.range (len * i.size)).map (fun j => z.cells[j % z.cells.size]!) = zs
  have hzl : VL φ (madeA zc len) zs.toList := by
    obtain ⟨h7, _⟩ := AV.cellsO_ok hzc (ofConst_ok φ z)
    have : zs = madeCells z.cells (len * z.cells.size) := by rw [← hzz, ← hzs]; rfl
    rw [this, made_list]
    exact madeA_ok h7 len
  obtain ⟨ca', f1, f2, f3⟩ := h2 φ a.eval zs (parts_of (by rw [ho]; rfl) g2) hzl
  have hf : Instr.fill (fun x => some (x * i.size, i.size)) zs (parts.map fun (i, x) => (i, a.eval x)).toList = some ca' := by
    rw [Array.toList_map]; simpa using f1
  refine ⟨.slice (some ⟨w.heap.size, 0, none⟩) len len, _, _, _, ?_, .alloc _ _, row_says f2, fun ψ _ hn => ⟨_, len, hn, rfl, Nat.le_refl _, fun _ h => by cases h; rfl⟩⟩
  have hb : ∀ parts : Array (Nat × Value), Instr.fill (fun x => some (x * i.size, i.size)) zs parts.toList = some ca' → (Instr.buildSlice t len parts).run P w = .ok (.slice (some ⟨w.heap.size, 0, none⟩) len len) (w.alloc (.cells ca' el)) := by
    intro parts hf
    have h24' : ¬ (2 ^ 24 < len * i.size) := by omega
    by_cases h0 : len * i.size = 0
    · have hzs0 : zs = #[] := by rw [← hzz, h0]; simp
      subst hzs0
      have hm : ∀ f : Nat → Value, Array.map f (Array.range 0) = #[] := fun f => by simp
      simp [Instr.buildSlice, run_underlying hu, sizeOf, typeInfo, hi, h0, hm, hf, newRow]
    · subst hzz
      have h24'' : ¬ (16777216 < len * i.size) := by omega
      simp [Instr.buildSlice, run_underlying hu, sizeOf, typeInfo, hi, h0, h24'', zeroValue, hz, hf, newRow]
  unfold execOp
  simp only [ho, Sem.run_bind, hb _ hf, Result.andThen_ok]
  rfl
theorem panic_ok {x : Operand} (ho : o.op = .panic x) : OpOk P G dt n ds o (.mk fun _ e t hp _ kp => ((opd G dt n ds x).run e t).on_ifc fun ty v => kp (.ifc ty v) hp) := by
  intro hd hok e t hp k kp r hr
  obtain ⟨ty, v, hv, h1⟩ := AV.on_ifc_some (show ((opd G dt n ds x).run e t).on_ifc (fun ty v => kp (.ifc ty v) hp) = some r from hr)
  refine .inr ⟨_, hp, h1, fun φ B a w g1 g2 g3 K Q hQ => ?_⟩
  have hx := g2 x (by rw [ho]; simp [Op.operands])
  rw [hv] at hx
  obtain ⟨u, e1, hu⟩ := hx
  have e1' : a.eval x = .iface ty u := e1
  have hrun : (execOp a.eval o).run P w = .halt (.panic (.iface ty u)) w := by
    unfold execOp
    rw [ho]
    simp [e1', Instr.panic, goPanic, Sem.run]
  refine .inl ?_
  unfold Oper.wp
  rw [hrun]
  exact hQ (.iface ty u) w ⟨φ, ⟨u, rfl, hu⟩, Step.refl, g3⟩
end
def notIfc : TypeDesc → Bool
  | .interface _ => false
  | _ => true
theorem notIfc_ok {d : TypeDesc} (h : notIfc d = true) : ∀ ms, d ≠ .interface ms := fun ms e => by subst e; cases h
abbrev OD (P : Program) (G dt n : Nat) (ds : List (Option Nat)) (o : Oper) := Option { q : Kd × OM // OmOk P G dt n ds o q }
section
variable {P : Program} {G dt n : Nat} {ds : List (Option Nat)} {o : Oper} {F : VM}
noncomputable def odP (h : PureOk P G dt n ds o F) : OD P G dt n ds o := some ⟨(.pure, .mk fun _ e t hp k _ => F e t hp k), F, rfl, h⟩
noncomputable def odS (h : StillOk P G dt n ds o F) : OD P G dt n ds o := some ⟨(.still, .mk fun _ e t hp k _ => F e t hp k), F, rfl, h⟩
noncomputable def odM (h : MakeOk P G dt n ds o F) : OD P G dt n ds o := some ⟨(.make, .mk fun _ e t hp k _ => F e t hp k), F, rfl, h⟩
noncomputable def odV (h : ValOk P G dt n ds o F) : OD P G dt n ds o := some ⟨(.eff, .mk fun _ e t hp k _ => F e t hp k), h.op⟩
noncomputable def odE {m : OM} (h : OpOk P G dt n ds o m) : OD P G dt n ds o := some ⟨(.eff, m), h⟩
theorem callB {c : Call} {b : Builtin} {ars : List Operand} {ts : List TypeId} (ho : o.op = .call c) (h1 : c.callee = .builtin b) (h2 : c.args.toList = ars) (h3 : c.argTypes.toList = ts) : o.op = .call { callee := .builtin b, args := ars.toArray, argTypes := ts.toArray } := by
  obtain ⟨cal, args, tys⟩ := c
  simp only at h1 h2 h3
  subst h1 h2 h3
  rw [ho]
theorem callV {c : Call} {f : Operand} (ho : o.op = .call c) (h1 : c.callee = .value f) : o.op = .call { callee := .value f, args := c.args, argTypes := c.argTypes } := by
  obtain ⟨cal, args, tys⟩ := c
  simp only at h1
  subst h1
  rw [ho]
end
noncomputable def odBuiltin (P : Program) (G dt n : Nat) (ds : List (Option Nat)) (o : Oper) (c : Call) (ho : o.op = .call c) (b : Builtin) (hb : c.callee = .builtin b) : OD P G dt n ds o :=
  match h2 : c.args.toList, h3 : c.argTypes.toList with
  | [x], [t] => match b, hb with
    | .len, hb => match hu : P.underlying t with
      | some .string => odP (lenS_ok (callB ho hb h2 h3) hu)
      | some (.slice _) => odP (lenV_ok (callB ho hb h2 h3) hu)
      | _ => none
    | .cap, hb => match hu : P.underlying t with
      | some (.slice _) => odP (cap_ok (callB ho hb h2 h3) hu)
      | _ => none
    | .unsafeSliceData, hb => odP (sliceData_ok (callB ho hb h2 h3))
    | .clear, hb => match hu : P.underlying t with
      | some (.slice el) => match hi : P.info? el with
        | some i => match hz : i.zero with
          | some z => match hzc : (ofConst z).cellsO with
            | some zc => if hzs : z.cells.size = i.size then odV (clear_ok (callB ho hb h2 h3) hu hi hz hzs hzc) else none
            | none => none
          | none => none
        | none => none
      | _ => none
    | _, _ => none
  | [x, y], [t, t'] => match b, hb with
    | .append, hb => match hu : P.underlying t with
      | some (.slice e) => match hi : P.info? e with
        | some i => match hz : i.zero with
          | some z => if hzs : z.cells.size = i.size then
              (match hk : P.underlying t' with
              | some (.slice e') => odV (append_ok (callB ho hb h2 h3) hu hi hz hzs (.inl ⟨e', hk⟩))
              | some .string => odV (append_ok (callB ho hb h2 h3) hu hi hz hzs (.inr hk))
              | _ => none)
            else none
          | none => none
        | none => none
      | _ => none
    | .copy, hb => match hu : P.underlying t with
      | some (.slice e) => match hi : P.info? e with
        | some i => odV (copy_ok (callB ho hb h2 h3) hu hi)
        | none => none
      | _ => none
    | .min, hb => odP (min_ok (callB ho hb h2 h3))
    | .max, hb => odP (max_ok (callB ho hb h2 h3))
    | .unsafeString, hb => match hu : P.underlying t with
      | some (.pointer e) => if hc : P.cellsOf e = 1 then odV (unsafeString_ok (callB ho hb h2 h3) hu hc) else none
      | _ => none
    | _, _ => none
  | [x, y, u], [t, t', t''] => match b, hb with
    | .min, hb => odP (min3_ok (callB ho hb h2 h3))
    | .max, hb => odP (max3_ok (callB ho hb h2 h3))
    | _, _ => none
  | _, _ => none
noncomputable def odConvert (P : Program) (G dt n : Nat) (ds : List (Option Nat)) (o : Oper) (s t : TypeId) (x : Operand) (ho : o.op = .convert s t x) : OD P G dt n ds o :=
  match hs : P.underlying s, ht : P.underlying t with
  | some d, some (.int kd) => odP (convInt_ok ho hs ht)
  | some (.slice el), some .string => match he : P.underlying el with
    | some (.int .u8) => odS (convText_ok ho hs he ht)
    | _ => none
  | some .string, some (.slice el) => match he : P.underlying el with
    | some (.int .u8) => odM (convBytes_ok ho hs ht he)
    | _ => none
  | some (.pointer te), some .unsafePointer => match hi : P.info? te with
    | some i => if hz : i.size ≠ 0 then odS (toUnsafe_ok ho hs ht hi hz) else none
    | none => none
  | some .unsafePointer, some (.pointer u) => match hi : P.info? u with
    | some i => odS (fromUnsafe_ok ho hs ht hi)
    | none => none
  | _, _ => none
noncomputable def odBin (P : Program) (G dt n : Nat) (ds : List (Option Nat)) (o : Oper) (op : BinOp) (t yt : TypeId) (x y : Operand) (ho : o.op = .binOp op t x y yt) : OD P G dt n ds o :=
  match hu : P.underlying t with
  | some (.struct fs) => match hs : P.stoodInHeld t, hm : P.eqGuardType P.depth t, hL : plainF P fs.toList with
    | false, false, some L => odP (binS_ok ho hu hs hm hL)
    | _, _, _ => none
  | some (.pointer e) => match hi : P.info? e with
    | some i => odP (binP_ok ho hu hi)
    | none => none
  | _ => odP (bin_ok ho)
noncomputable def odBuild (P : Program) (G dt n : Nat) (ds : List (Option Nat)) (o : Oper) (t : TypeId) (parts : Array (Nat × Operand)) (ho : o.op = .build t parts) : OD P G dt n ds o :=
  match hit : P.info? t with
  | some it => match hz : it.zero with
    | some z => match hzc : (ofConst z).cellsO with
      | some zc => match hu : P.underlying t with
        | some (.struct fields) => match hpl : fields.toList.mapM (fun f => (P.info? f.type).map fun i => (f.offset, i.size)) with
          | some places => match hL : plan G dt n ds (fun x => places[x]?) parts.toList with
            | some L => odP (buildS_ok ho hu hit hz hzc hpl hL)
            | none => none
          | none => none
        | some (.array len el) => match hi : P.info? el with
          | some i => match hL : plan G dt n ds (fun x => some (x * i.size, i.size)) parts.toList with
            | some L => odP (buildA_ok ho hu hit hz hzc hi hL)
            | none => none
          | none => none
        | _ => none
      | none => none
    | none => none
  | none => none
noncomputable def odSlice (P : Program) (G dt n : Nat) (ds : List (Option Nat)) (o : Oper) (t : TypeId) (x : Operand) (low high : Option Operand) (ho : o.op = .slice t x low high none) : OD P G dt n ds o :=
  match hu : P.underlying t with
  | some .string => odP (sliceS_ok ho hu)
  | some (.slice el) => match hi : P.info? el with
    | some i => odS (sliceO_ok ho hu hi)
    | none => none
  | some (.array len el) => match hi : P.info? el with
    | some i => odP (sliceP_ok ho hu hi)
    | none => none
  | _ => none
noncomputable def odSlice3 (P : Program) (G dt n : Nat) (ds : List (Option Nat)) (o : Oper) (t : TypeId) (x : Operand) (low : Option Operand) (h m : Operand) (ho : o.op = .slice t x low (some h) (some m)) : OD P G dt n ds o :=
  match hu : P.underlying t with
  | some (.slice el) => match hi : P.info? el with
    | some i => odP (sliceV3_ok ho hu hi)
    | none => none
  | _ => none
noncomputable def odAddr (P : Program) (G dt n : Nat) (ds : List (Option Nat)) (o : Oper) (t : TypeId) (x y : Operand) (ho : o.op = .indexAddr t x y) : OD P G dt n ds o :=
  match hu : P.underlying t with
  | some (.slice el) => match hi : P.info? el with
    | some i => odP (indexAddrG_ok ho hu hi)
    | none => none
  | some (.array len el) => match hi : P.info? el with
    | some i => odP (indexAddrA_ok ho hu hi)
    | none => none
  | _ => none
noncomputable def odBuildSlice (P : Program) (G dt n : Nat) (ds : List (Option Nat)) (o : Oper) (t : TypeId) (len : Nat) (parts : Array (Nat × Operand)) (ho : o.op = .buildSlice t len parts) : OD P G dt n ds o :=
  match hu : P.underlying t with
  | some (.slice el) => match hi : P.info? el with
    | some i => match hz : i.zero with
      | some z => match hzc : (ofConst z).cellsO with
        | some zc => if hzs : z.cells.size = i.size then (if h24 : len * i.size ≤ 2 ^ 24 then
            (match hL : plan G dt n ds (fun x => some (x * i.size, i.size)) parts.toList with
            | some L => odM (buildSl_ok ho hu hi hz hzs hzc h24 hL)
            | none => none) else none) else none
        | none => none
      | none => none
    | none => none
  | _ => none
def twoOf (fs : Array Field) : Option (Field × Field) := match fs.toList with
  | [a, b] => some (a, b)
  | _ => none
theorem twoOf_eq {fs : Array Field} {f0 f1 : Field} (h : twoOf fs = some (f0, f1)) : fs = #[f0, f1] := by
  unfold twoOf at h
  split at h
  · rename_i a b hl
    simp only [Option.some.injEq, Prod.mk.injEq] at h
    obtain ⟨rfl, rfl⟩ := h
    cases fs
    simp_all
  · cases h
noncomputable def odMap (P : Program) (G dt n : Nat) (ds : List (Option Nat)) (o : Oper) (mT : TypeId) (x y u : Operand) (ho : o.op = .mapUpdate mT x y u ∨ o.op = .insert mT x y u) : OD P G dt n ds o :=
  match hu : P.underlying mT with
  | some (.map kt el) => match hk : P.underlying kt with
    | some (.struct fs) => match h2 : twoOf fs with
      | some (f0, f1) => if ht : twoB P kt f0 f1 = true then odV (update2_ok ho hu (by rw [hk, twoOf_eq h2]) ht) else none
      | none => none
    | some d => odV (update_ok ho hu hk)
    | none => none
  | _ => none
noncomputable def odAll (P : Program) (G dt n : Nat) (ds : List (Option Nat)) (o : Oper) : OD P G dt n ds o :=
  match ho : o.op with
  | .move x => odP (move_ok (.inl ho))
  | .assign x => odP (move_ok (.inr ho))
  | .pick c x y => odP (pick_ok ho)
  | .alloc t => match hi : P.info? t with
    | some i => match hz : i.zero with
      | some z => match hc : (ofConst z).cellsO with
        | some c => odM (alloc_ok ho hi hz hc)
        | none => none
      | none => none
    | none => none
  | .box t x => odM (box_ok ho)
  | .build t parts => odBuild P G dt n ds o t parts ho
  | .buildSlice t len parts => odBuildSlice P G dt n ds o t len parts ho
  | .insert t m k v => odMap P G dt n ds o t m k v (.inr ho)
  | .mapUpdate t m k v => odMap P G dt n ds o t m k v (.inl ho)
  | .load t x => match ha : aggT P t, hi : P.info? t with
    | some agg, some i => odS (load_ok ho ha hi)
    | _, _ => none
  | .store t x y => match hi : P.info? t with
    | some i => odV (store_ok ho hi)
    | none => none
  | .nilCheck x => odP (nilCheck_ok ho)
  | .binOp op t x y yt => odBin P G dt n ds o op t yt x y ho
  | .unOp .not t x => odP (not_ok ho)
  | .convert s t x => odConvert P G dt n ds o s t x ho
  | .makeInterface t x => match hd : P.underlying t with
    | some d => match hn : notIfc d with
      | true => odP (makeInterface_ok ho hd (notIfc_ok hn))
      | false => none
    | none => none
  | .makeFunc f xs ys => odP (makeFunc_ok ho)
  | .makeMap t none => odM (makeMap_ok ho)
  | .makeSlice t x y => match hu : P.underlying t with
    | some (.slice el) => match hi : P.info? el with
      | some i => match hz : i.zero with
        | some z => match hzc : (ofConst z).cellsO with
          | some zc => if hzs : z.cells.size = i.size then odM (makeSlice_ok ho hu hi hz hzs hzc) else none
          | none => none
        | none => none
      | none => none
    | _ => none
  | .slice t x low high none => odSlice P G dt n ds o t x low high ho
  | .slice t x low (some h) (some m) => odSlice3 P G dt n ds o t x low h m ho
  | .fieldAddr s x f => match hs : P.underlying s with
    | some (.struct fs) => match hf : fs[f]? with
      | some fd => match hi : P.info? fd.type with
        | some i => if hz : i.size ≠ 0 then odP (fieldAddr_ok ho hs hf hi hz) else none
        | none => none
      | none => none
    | _ => none
  | .indexAddr t x y => odAddr P G dt n ds o t x y ho
  | .index t x y => match hu : P.underlying t with
    | some .string => odP (indexS_ok ho hu)
    | some (.array len el) => match hi : P.info? el, ha : aggT P el with
      | some i, some agg => odP (indexAg_ok ho hu hi ha)
      | _, _ => none
    | _ => none
  | .lookup mT x y ok => match hu : P.underlying mT with
    | some (.map kt el) => match hk : P.underlying kt, hi : P.info? el with
      | some (.struct fs), some i => match hz : i.zero, h2 : twoOf fs with
        | some z, some (f0, f1) => if ht : twoB P kt f0 f1 = true then odS (lookup2_ok ho hu (by rw [hk, twoOf_eq h2]) ht hi hz) else none
        | _, _ => none
      | some d, some i => match hz : i.zero with
        | some z => odS (lookup_ok ho hu hk hi hz)
        | none => none
      | _, _ => none
    | _ => none
  | .range t x => match hu : P.underlying t with
    | some .string => odM (rangeS_ok ho hu)
    | _ => none
  | .next x true => odV (nextS_ok ho)
  | .typeAssert x xT t false => match hu : P.underlying t with
    | some d => match hn : notIfc d with
      | true => odP (assert_ok ho hu (notIfc_ok hn))
      | false => none
    | none => none
  | .extract x j => odP (extract_ok ho)
  | .panic x => odE (panic_ok ho)
  | .call c => match hc : c.callee with
    | .value f => odE (call_ok (callV ho hc))
    | .builtin b => odBuiltin P G dt n ds o c ho b hc
    | .invoke _ _ => none
  | _ => none
end Go.Proofs.YtngjhkcdhbfkiaaGreatDoor.Clo
end
section
namespace Go.Proofs.YtngjhkcdhbfkiaaGreatDoor.Clo
open Go.RowKit
set_option linter.unusedVariables false
set_option linter.unusedSimpArgs false
set_option linter.constructorNameAsVariable false
theorem loadF_some {P : Program} {t : TypeId} {agg : Bool} {i : TypeInfo} (ha : aggT P t = some agg) (hi : P.info? t = some i) {b : Id} {q : Nat} {hp : HP} {k : KV} {x : AV × HP} (h : loadF agg i.size b q hp k = some x) :
    ∃ v, k v hp = some x ∧ ∀ φ w g, RH φ hp w → φ b = some g → Runs P (loadVar t ⟨g.1, q, none⟩) w fun v' w' => w' = w ∧ VR φ v v' := by
  cases hp with
  | mk m nx =>
  obtain ⟨t1, gr, fz, ro, cells, hm, h2⟩ := onRow_some (show onRow m b _ = some x from h)
  cases agg with
  | false =>
    obtain ⟨h3, h4⟩ := AV.atR_some q h2
    refine ⟨_, h4, fun φ w g hw hg => ?_⟩
    obtain ⟨v', h5, h6⟩ := RW.cell hw hm hg h3
    unfold loadVar
    exact .bind (runs_isAgg ha (runs_load h5 ⟨rfl, h6⟩))
  | true =>
    cases ht : (cells.drop q).takeO i.size with
    | none => simp only [ht] at h2; cases h2
    | some y =>
      simp only [ht] at h2
      obtain ⟨h3, h4⟩ := AV.takeO_some i.size ht
      refine ⟨.ag y, h2, fun φ w g hw hg => ?_⟩
      have hlen : q + i.size ≤ cells.len ∨ i.size = 0 := by
        rcases Nat.eq_zero_or_pos i.size with h0 | h0
        · exact .inr h0
        · have := AV.drop_len q cells (by omega)
          exact .inl (by omega)
      unfold loadVar
      refine .bind (runs_isAgg ha (.bind (runs_sizeOf hi (.bind ?_))))
      rcases hlen with hlen | h0
      · obtain ⟨vs, h5, h6, _⟩ := RW.cells (P := P) (show RW φ m w from hw) hm hg hlen
        exact .of h5 (.pure ⟨rfl, vs.toArray, rfl, by rw [h4]; exact h6⟩)
      · rw [h0] at h4 ⊢
        subst h4
        exact .of (a := #[]) (w' := w) rfl (.pure ⟨rfl, #[], rfl, rfl⟩)
inductive QM where | mk (f : Tr → HP → (AV → R) → R)
noncomputable def QM.run (q : QM) : Tr → HP → (AV → R) → R := QM.rec (fun f => f) q
section
variable (P : Program) (dt n : Nat)
noncomputable def resL : List ResultVar → QM
  | [] => .mk fun _ _ k => k .nil
  | .tmp d :: r => match Nat.blt d n with
    | true => let q := resL r; let p := path dt d; .mk fun t hp k => q.run t hp fun l => k (.cons (getT p t) l)
    | false => .mk fun _ _ _ => none
  | .cell a ty :: r => match Nat.blt a n, aggT P ty, P.info? ty with
    | true, some agg, some i => let q := resL r; let p := path dt a; let sz := i.size; .mk fun t hp k => (getT p t).on_p fun b o => loadF agg sz b o hp fun v _ => q.run t hp fun l => k (.cons v l)
    | _, _, _ => .mk fun _ _ _ => none
noncomputable def oneOf (l : AV) (k : AV → R) : R := match l with
  | .cons v .nil => k v
  | l => k (.tu l)
variable {P dt n}
def resOne (tmps : Array Value) : ResultVar → Sem Value
  | .tmp t => pure (tmps.getD t undef)
  | .cell a t => do loadVar t (← asAddr (tmps.getD a undef))
theorem resL_some {lo : Nat → Bool} : ∀ {rs : List ResultVar} {t : Tr} {hp : HP} {k : AV → R} {x : AV × HP}, (resL P dt n rs).run t hp k = some x → ∃ l, k l = some x ∧ ∀ {sts : List Site} φ (B : Bse sts) (a : Act) w, FR φ dt n lo t a → WH φ B hp w →
    ∃ vs : List Value, VL φ l vs ∧ vs.length = rs.length ∧ ∀ (i : Nat) (rv : ResultVar), rs[i]? = some rv → ∃ v, vs[i]? = some v ∧ (resOne a.tmps rv).run P w = .ok v w
  | [], t, hp, k, x, h => ⟨.nil, h, fun φ B a w _ _ => ⟨[], rfl, rfl, fun i rv hi => by simp at hi⟩⟩
  | .tmp d :: r, t, hp, k, x, h => by
    unfold resL at h
    split at h
    · rename_i hd
      have hd' : d < n := by simpa [Nat.blt_eq] using hd
      obtain ⟨l, h1, h2⟩ := resL_some (lo := lo) (show (resL P dt n r).run t hp _ = some x from h)
      refine ⟨_, h1, fun φ B a w hf hw => ?_⟩
      obtain ⟨vs, v1, v2, v3⟩ := h2 φ B a w hf hw
      refine ⟨a.tmps.getD d undef :: vs, ⟨_, _, rfl, hf.at' d hd', v1⟩, by simp [v2], fun i rv hi => ?_⟩
      cases i with
      | zero => simp at hi; subst hi; exact ⟨_, rfl, rfl⟩
      | succ i => exact v3 i rv (by simpa using hi)
    · cases h
  | .cell a0 ty :: r, t, hp, k, x, h => by
    unfold resL at h
    split at h
    · rename_i agg i hd ha hi
      have hd' : a0 < n := by simpa [Nat.blt_eq] using hd
      obtain ⟨b, o, hb, h1⟩ := AV.on_p_some (show (getT (path dt a0) t).on_p (fun b o => loadF agg i.size b o hp fun v _ => (resL P dt n r).run t hp fun l => k (.cons v l)) = some x from h)
      obtain ⟨v, h2, h3⟩ := loadF_some ha hi h1
      obtain ⟨l, h4, h5⟩ := resL_some (lo := lo) h2
      refine ⟨_, h4, fun φ B a w hf hw => ?_⟩
      obtain ⟨vs, v1, v2, v3⟩ := h5 φ B a w hf hw
      have hv := hf.at' a0 hd'
      rw [hb] at hv
      obtain ⟨g, hg, e1⟩ := hv
      obtain ⟨v', w', e2, rfl, e3⟩ := h3 φ w g (WR.rw hw) hg
      refine ⟨v' :: vs, ⟨_, _, rfl, e3, v1⟩, by simp [v2], fun j rv hj => ?_⟩
      cases j with
      | zero =>
        simp at hj
        subst hj
        refine ⟨v', rfl, ?_⟩
        unfold resOne
        rw [Sem.run_bind, e1]
        simp only [asAddr, Sem.run_pure, Result.andThen_ok]
        exact e2
      | succ j => exact v3 j rv (by simpa using hj)
    · cases h
theorem results_run {fn : Func} {tmps : Array Value} {w : World} {vs : List Value} (h4 : fn.results.toList.length ≤ 5) (hn : vs.length = fn.results.toList.length) (h : ∀ (i : Nat) (rv : ResultVar), fn.results.toList[i]? = some rv → ∃ v, vs[i]? = some v ∧ (resOne tmps rv).run P w = .ok v w) :
    (results fn tmps).run P w = .ok (if h : vs.toArray.size = 1 then vs.toArray[0] else .tuple vs.toArray) w := by
  have hrun : ∀ rs : List ResultVar, fn.results = rs.toArray → rs.length ≤ 5 → (∀ (i : Nat) (rv : ResultVar), rs[i]? = some rv → ∃ v, vs[i]? = some v ∧ (resOne tmps rv).run P w = .ok v w) → vs.length = rs.length →
      (results fn tmps).run P w = .ok (if h : vs.toArray.size = 1 then vs.toArray[0] else .tuple vs.toArray) w := by
    intro rs e hle hrs hlen
    have one : ∀ (i : Nat) (rv : ResultVar) (v : Value), rs[i]? = some rv → vs[i]? = some v → (resOne tmps rv).run P w = .ok v w := fun i rv v h1 h2 => by
      obtain ⟨v', h3, h4⟩ := hrs i rv h1
      rw [h2] at h3
      cases h3
      exact h4
    have unf : results fn tmps = (do
        let us ← fn.results.mapM (resOne tmps)
        pure (if h : us.size = 1 then us[0] else .tuple us)) := by
      unfold results
      have : (fun (x : ResultVar) => match x with
        | .tmp t => (pure (tmps.getD t undef) : Sem Value)
        | .cell a t => do loadVar t (← asAddr (tmps.getD a undef))) = resOne tmps := by
          funext x
          cases x <;> rfl
      rw [← this]
      rfl
    rw [unf, e]
    match rs, vs, hle, hlen, one with
    | [], [], _, _, _ => simp
    | [r1], [v1], _, _, one => simp [one 0 r1 v1 rfl rfl]
    | [r1, r2], [v1, v2], _, _, one => simp [one 0 r1 v1 rfl rfl, one 1 r2 v2 rfl rfl]
    | [r1, r2, r3], [v1, v2, v3], _, _, one => simp [one 0 r1 v1 rfl rfl, one 1 r2 v2 rfl rfl, one 2 r3 v3 rfl rfl]
    | [r1, r2, r3, r4], [v1, v2, v3, v4], _, _, one => simp [one 0 r1 v1 rfl rfl, one 1 r2 v2 rfl rfl, one 2 r3 v3 rfl rfl, one 3 r4 v4 rfl rfl]
    | [r1, r2, r3, r4, r5], [v1, v2, v3, v4, v5], _, _, one => simp [one 0 r1 v1 rfl rfl, one 1 r2 v2 rfl rfl, one 2 r3 v3 rfl rfl, one 3 r4 v4 rfl rfl, one 4 r5 v5 rfl rfl]
  exact hrun fn.results.toList (by simp) h4 h hn
theorem results_ok {fn : Func} (h4 : fn.results.toList.length ≤ 5) {l : AV} {k : AV → R} {x : AV × HP} (hk : oneOf l k = some x) : ∃ v, k v = some x ∧ ∀ φ (tmps : Array Value) (w : World) (vs : List Value), VL φ l vs → vs.length = fn.results.toList.length →
    (∀ (i : Nat) (rv : ResultVar), fn.results.toList[i]? = some rv → ∃ v, vs[i]? = some v ∧ (resOne tmps rv).run P w = .ok v w) → ∃ v', (results fn tmps).run P w = .ok v' w ∧ VR φ v v' := by
  unfold oneOf at hk
  split at hk
  · rename_i v
    refine ⟨v, hk, fun φ tmps w vs hl hn h => ?_⟩
    have hr := results_run (P := P) h4 hn h
    obtain ⟨v0, vs', e, hv, hvs⟩ := hl
    have : vs' = [] := hvs
    subst e this
    exact ⟨v0, by rw [hr]; rfl, hv⟩
  · rename_i hno
    refine ⟨_, hk, fun φ tmps w vs hl hn h => ⟨.tuple vs.toArray, ?_, vs.toArray, rfl, by simpa using hl⟩⟩
    rw [results_run (P := P) h4 hn h, dif_neg]
    intro hs
    have hs' : vs.length = 1 := by simpa using hs
    cases l with
    | cons y r =>
      obtain ⟨v0, vs', e, hv, hvs⟩ := hl
      subst e
      have h0 : vs' = [] := by simpa using hs'
      subst h0
      cases r <;> first | exact hno _ rfl | skip
      all_goals first | (obtain ⟨_, _, e, _⟩ := hvs; cases e) | exact hvs.elim
    | nil => have : vs = [] := hl; subst this; simp at hs'
    | _ => exact hl.elim
end
noncomputable def initT (dt : Nat) (lo : Nat → Bool) (l : AV) : Nat → Tr → Tr :=
  AV.rec (motive := fun _ => Nat → Tr → Tr) (fun _ t => t) (fun _ t => t) (fun x _ _ ih i t => ih (Nat.succ i) (Bool.rec (t.set (path dt i) x) t (lo i))) (fun _ t => t) (fun _ _ _ _ t => t) (fun _ t => t) (fun _ _ _ _ _ _ t => t) (fun _ t => t) (fun _ _ t => t) (fun _ _ _ t => t) (fun _ _ _ t => t) (fun _ t => t) (fun _ _ _ _ _ t => t) (fun _ _ _ _ _ t => t) (fun _ _ t => t) (fun _ _ t => t) (fun _ t => t) (fun _ _ _ t => t) (fun _ _ t => t) (fun _ _ t => t) (fun _ _ _ t => t) l
theorem FR.set {φ : Id → Option Plc} {dt n : Nat} {lo : Nat → Bool} {t : Tr} {a : Act} (hf : FR φ dt n lo t a) {i : Nat} {x : AV} (hi : i < n) (hl : lo i = false) (hx : VR φ x (a.tmps.getD i undef)) : FR φ dt n lo (t.set (path dt i) x) a := by
  have ne : ∀ k, k ≤ n → i ≠ k → path dt k ≠ path dt i := fun k hk h e => h (path_inj dt k i (Nat.lt_of_le_of_lt hk hf.cap) (Nat.lt_trans hi hf.cap) e).symm
  refine ⟨hf.sz, hf.cap, fun k hk => ?_, fun k hk hl' => ?_, ?_⟩
  · by_cases h : i = k
    · subst h; rw [getT_get, T4.get_set_same]; exact hx
    · rw [getT_get, T4.get_set_other _ _ _ _ (by rw [path_len, path_len]) (ne k (Nat.le_of_lt hk) h), ← getT_get]
      exact hf.at' k hk
  · have h : i ≠ k := fun e => by subst e; rw [hl] at hl'; cases hl'
    rw [getT_get, T4.get_set_other _ _ _ _ (by rw [path_len, path_len]) (ne k (Nat.le_of_lt hk) h), ← getT_get]
    exact hf.lo k hk hl'
  · rw [getT_get, T4.get_set_other _ _ _ _ (by rw [path_len, path_len]) (ne n (Nat.le_refl n) (Nat.ne_of_lt hi)), ← getT_get]
    exact hf.df
theorem initT_ok {φ : Id → Option Plc} {dt n : Nat} {lo : Nat → Bool} {a : Act} : ∀ {l : AV} {vs : List Value} {i : Nat} {t : Tr}, VL φ l vs → i + vs.length ≤ n → (∀ (j : Nat) (v : Value), vs[j]? = some v → a.tmps.getD (i + j) undef = v) → FR φ dt n lo t a → FR φ dt n lo (initT dt lo l i t) a
  | .nil, vs, i, t, hl, hle, hv, hf => hf
  | .cons x r, vs, i, t, ⟨v, vs', e, h1, h2⟩, hle, hv, hf => by
    subst e
    simp only [List.length_cons] at hle
    have h0 := hv 0 v rfl
    rw [Nat.add_zero] at h0
    show FR φ dt n lo (initT dt lo r (Nat.succ i) (Bool.rec (t.set (path dt i) x) t (lo i))) a
    refine initT_ok h2 (by omega) (fun j u hj => ?_) ?_
    · have := hv (j + 1) u (by simpa using hj)
      rw [← this]
      congr 1
      omega
    · cases hlo : lo i with
      | true => exact hf
      | false => exact hf.set (by omega) hlo (by rw [h0]; exact h1)
theorem FR.start {φ : Id → Option Plc} {dt n : Nat} {lo : Nat → Bool} {a : Act} (hn : n < 4 ^ dt) (hs : a.tmps.size = n) (hd : a.defers = []) : FR φ dt n lo .e a := by
  have hu : ∀ p, getT p (T4.e : Tr) = .u := fun p => by rw [getT_get, T4.get_e]; rfl
  exact ⟨hs, hn, fun d _ => by rw [hu]; exact trivial, fun d _ _ => hu _, by rw [hu, hd]; rfl⟩
theorem enter_ok {φ : Id → Option Plc} {dt n : Nat} {lo : Nat → Bool} (hn : n < 4 ^ dt) {l : AV} {ars : Array Value} (hl : VL φ l ars.toList) (hle : l.len ≤ n) : FR φ dt n lo (initT dt lo l 0 .e) { tmps := ars ++ Array.replicate (n - ars.size) undef, defers := [] } := by
  have hsz : ars.size ≤ n := by rw [← Array.length_toList, VL.len hl]; exact hle
  refine initT_ok hl (by rw [Array.length_toList]; omega) (fun j v hj => ?_) (FR.start hn (by simp; omega) rfl)
  rw [Array.getElem?_toList] at hj
  simp only [Nat.zero_add, Array.getD_eq_getD_getElem?]
  rw [Array.getElem?_append_left (Array.getElem?_eq_some_iff.1 hj).1, hj]
  rfl
def LeavesX (P : Program) (fn : Func) (tmps : Array Value) (R : Ending → World → Prop) : List Deferred → FrameMode → World → Prop
  | [], u, w => Leaves P fn tmps R [] u w
  | d :: ds, u, w => u ≠ .run ∧ ((∃ r w', d.target = .collected r ∧ (Instr.takeDeferred r).run P w = .ok [] w' ∧ LeavesX P fn tmps R ds u w') ∨
      ∃ fv cap f args, d.target = .fn fv cap ∧ (invoke d.target d.args).run P w = .ok (.enter f args) w ∧ CallsD P f args u w fun
        | .returned _, u', w' => LeavesX P fn tmps R ds (settle u') w'
        | .panicked chain, u', w' => LeavesX P fn tmps R ds (raised u' chain) w'
        | .outgrown, _, w' => R .outgrown w')
theorem leaves_stepsX {P : Program} {fn : Func} {tmps : Array Value} {R : Ending → World → Prop} : ∀ (ds : List Deferred) (u : FrameMode) (w : World) (fr : Frame)
    (cs : List Frame), fr.mode = u → fr.defers = ds → fr.tmps = tmps → P.funcs[fr.fn]? = some fn → fr.kind = .normal → LeavesX P fn tmps R ds u w →
    ∃ e w' fr', R e w' ∧ Comes P (lone fr cs w) (lone fr' cs w') e ∧ fr'.fn = fr.fn ∧ fr'.leaving P w' e := by
  intro ds
  induction ds with
  | nil => exact fun u w fr cs hu hd ht hf hk h => leaves_steps [] u w fr cs hu hd ht hf hk h
  | cons d ds ih =>
    intro u w fr cs hu hd ht hf hk h
    obtain ⟨hrun, h⟩ := h
    rcases h with ⟨r, w', htar, htake, hrest⟩ | ⟨fv, cap, f, args, htar, hinv, hcall⟩
    · have h1 := step_collected (cs := cs) (hu ▸ hrun) hd htar htake
      obtain ⟨e', w'', fr', hR', hs', hfn', hl'⟩ := ih u w' { fr with defers := [] ++ ds } cs hu rfl ht hf hk hrest
      exact ⟨e', w'', fr', hR', Comes.of_steps (.one h1) hs', hfn', hl'⟩
    · have h1 := step_defer (cs := cs) (hu ▸ hrun) hd htar hinv
      obtain ⟨e, u', w', frX, hR, hsteps, hkX, hgo⟩ := hcall { fr with defers := ds } cs hu
      cases e with
      | returned v =>
        have h2 := step_going_returned (c := { { fr with defers := ds } with mode := u' }) (cs := cs) hkX hgo
        obtain ⟨e', w'', fr', hR', hs', hfn', hl'⟩ := ih (settle u') w' { { { fr with defers := ds } with mode := u' } with mode := settle u' } cs rfl rfl ht hf hk hR
        exact ⟨e', w'', fr', hR', Comes.of_steps (.head h1 (Steps.trans hsteps (.one h2))) hs', hfn', hl'⟩
      | panicked chain =>
        have h2 := step_going_panicked (c := { { fr with defers := ds } with mode := u' }) (cs := cs) hgo
        obtain ⟨e', w'', fr', hR', hs', hfn', hl'⟩ := ih (raised u' chain) w' { { { fr with defers := ds } with mode := u' } with mode := raised u' chain } cs rfl rfl ht hf hk hR
        exact ⟨e', w'', fr', hR', Comes.of_steps (.head h1 (Steps.trans hsteps (.one h2))) hs', hfn', hl'⟩
      | outgrown => exact ⟨.outgrown, w', fr, hR, Outgrown.of_steps (.one h1) hsteps, rfl, trivial⟩
def bodyPostX (P : Program) (fn : Func) (R : Ending → World → Prop) : Exit → Act → World → Prop
  | .normal, a, w | .ret, a, w => LeavesX P fn a.tmps R a.defers .returning w
  | .panic chain, a, w => LeavesX P fn a.tmps R a.defers (.panicking chain) w
  | .outgrown, _, w => R .outgrown w
  | _, _, _ => False
theorem calls_of_wp_marks {P : Program} {f : FuncId} {fn : Func} {c : Code} {args : Array Value} {w : World} {R : Ending → World → Prop}
    (hf : P.funcs[f]? = some fn) (hb : fn.body = some c)
    (h : c.wp P (bodyPostX P fn R) { tmps := args ++ Array.replicate (fn.ntmps - args.size) undef, defers := [] } w) : Calls P f args w R := by
  intro cs
  let b : Frame := { (default : Frame) with fn := f, kind := .normal }
  have henter : Frame.enter P f args .normal =
      b.at { tmps := args ++ Array.replicate (fn.ntmps - args.size) undef, defers := [] } [.code c] := by
    simp [Frame.enter, Frame.at, hf, hb, b]
  obtain ⟨e, a', w', hq, harr⟩ := h b [] cs
  rw [← henter] at harr
  cases e with
  | normal =>
    obtain ⟨e', w'', fr', hR, hs, hfn, hl⟩ := leaves_stepsX a'.defers .returning w' { b.at a' [] with mode := .returning } cs rfl rfl rfl hf rfl hq
    exact ⟨e', w'', fr', hR, Comes.of_steps (Steps.trans harr (.one step_end)) hs, hfn, hl⟩
  | ret =>
    obtain ⟨todo, hs₀⟩ := harr
    obtain ⟨e', w'', fr', hR, hs, hfn, hl⟩ := leaves_stepsX a'.defers .returning w' { b.at a' todo with mode := .returning } cs rfl rfl rfl hf rfl hq
    exact ⟨e', w'', fr', hR, Comes.of_steps hs₀ hs, hfn, hl⟩
  | panic chain =>
    obtain ⟨todo, hs₀⟩ := harr
    obtain ⟨e', w'', fr', hR, hs, hfn, hl⟩ := leaves_stepsX a'.defers (.panicking chain) w' { b.at a' todo with mode := .panicking chain } cs rfl rfl rfl hf rfl hq
    exact ⟨e', w'', fr', hR, Comes.of_steps hs₀ hs, hfn, hl⟩
  | exit id => exact hq.elim
  | goto l => exact hq.elim
  | outgrown => exact ⟨.outgrown, w', b, hq, harr.resolve_left (by simp [b]), rfl, trivial⟩
theorem leavesX_cons {P : Program} {fn : Func} {tmps : Array Value} {R : Ending → World → Prop} {fv : Fn} {cap : Array Value} {args0 : Array Value} {ds : List Deferred} {u : FrameMode} {w : World} {f : FuncId} {args : Array Value} (hu : u ≠ .run) (hinv : (invoke (.fn fv cap) args0).run P w = .ok (.enter f args) w)
    (h : CallsD P f args u w fun
      | .returned _, u', w' => LeavesX P fn tmps R ds (settle u') w'
      | .panicked chain, u', w' => LeavesX P fn tmps R ds (raised u' chain) w'
      | .outgrown, _, w' => R .outgrown w') : LeavesX P fn tmps R ({ target := .fn fv cap, args := args0 } :: ds) u w := ⟨hu, .inr ⟨fv, cap, f, args, rfl, hinv, h⟩⟩
noncomputable def onOff (y : AV) (kf : AV → AV → R) (kq : Id → R) : R := AV.rec (motive := fun _ => R) none none (fun x0 x1 _ _ => kf x0 x1) none (fun _ _ _ => none) none (fun _ _ _ _ _ => none) none (fun q => kq q) (fun _ _ => none) (fun _ _ => none) none (fun _ _ _ _ => none) (fun _ _ _ _ => none) (fun _ => none) (fun _ => none) none (fun _ _ => none) (fun _ => none) (fun _ => none) (fun _ _ => none) y
theorem onOff_some {y : AV} {kf : AV → AV → R} {kq : Id → R} {r : AV × HP} (h : onOff y kf kq = some r) : (∃ x0 x1, y = .cons x0 x1 ∧ kf x0 x1 = some r) ∨ ∃ q, y = .mp q ∧ kq q = some r := by
  cases y <;> first | exact .inl ⟨_, _, rfl, h⟩ | exact .inr ⟨_, rfl, h⟩ | cases h
noncomputable def onDfd (hp : HP) (q : Id) (k : HP → R) : R := match hp with
  | .mk m nx => match m.get q with
    | some (.dfd true) => k (.mk (m.set q (.dfd false)) nx)
    | _ => none
theorem onDfd_some {hp : HP} {q : Id} {k : HP → R} {r : AV × HP} (h : onDfd hp q k = some r) : ∃ m nx, hp = .mk m nx ∧ m.get q = some (.dfd true) ∧ k (.mk (m.set q (.dfd false)) nx) = some r := by
  unfold onDfd at h
  split at h
  rename_i m nx
  split at h
  · rename_i e; exact ⟨m, nx, rfl, e, h⟩
  · cases h
noncomputable def leaveM (hd : Hd) (l : AV) : AV → HP → KV → R :=
  AV.rec (motive := fun _ => AV → HP → KV → R) (fun md hp k => k md hp) (fun _ _ _ => none) (fun x _ _ ih md hp k => onOff x (fun f args => f.on_fn fun f first cap => match f with
    | .func f => hd.d f (first.app (args.app cap)) md hp fun md hp => ih md hp k
    | _ => none) fun q => onDfd hp q fun hp => ih md hp k) (fun _ _ _ => none) (fun _ _ _ _ _ _ => none) (fun _ _ _ => none) (fun _ _ _ _ _ _ _ _ => none) (fun _ _ _ => none) (fun _ _ _ _ => none) (fun _ _ _ _ _ => none) (fun _ _ _ _ _ => none) (fun _ _ _ => none) (fun _ _ _ _ _ _ _ => none) (fun _ _ _ _ _ _ _ => none) (fun _ _ _ _ => none) (fun _ _ _ _ => none) (fun _ _ _ => none) (fun _ _ _ _ _ => none) (fun _ _ _ _ => none) (fun _ _ _ _ => none) (fun _ _ _ _ _ => none) l
theorem ModeR.run {φ : Id → Option Plc} {md : AV} {u : FrameMode} (h : ModeR φ md u) : u ≠ .run := by
  unfold ModeR at h
  split at h
  · rw [h]; exact nofun
  · obtain ⟨v', e, _⟩ := h; rw [e]; exact nofun
  · exact h.elim
theorem leaveM_some {P : Program} {G : Nat} {hd : Hd} (hok : HdOk P G hd) : ∀ {l : AV} {md : AV} {hp : HP} {k : KV} {x : AV × HP}, leaveM hd l md hp k = some x → ∃ md' hp', k md' hp' = some x ∧ ∀ φ (B : Bse hd.y.s) w (ds : List Deferred) u fn tmps (R : Ending → World → Prop), Glo G φ → WH φ B hp w → DfR φ l ds → ModeR φ md u →
      (∀ ψ u' w', ModeR ψ md' u' → StH φ hp w ψ hp' w' → WH ψ B hp' w' → Leaves P fn tmps R [] u' w') → LeavesX P fn tmps R ds u w
  | .u, md, hp, k, x, h => ⟨md, hp, h, fun φ B w ds u fn tmps R _ hw hds hm hR => by have : ds = [] := hds; subst this; exact hR φ u w hm Step.refl hw⟩
  | .cons y r, md, hp, k, x, h => by
    rcases onOff_some (show onOff y (fun f args => f.on_fn fun f first cap => match f with
      | .func f => hd.d f (first.app (args.app cap)) md hp fun md hp => leaveM hd r md hp k
      | _ => none) (fun q => onDfd hp q fun hp => leaveM hd r md hp k) = some x from h) with ⟨f, args, e1, h1⟩ | ⟨q, e1, h1⟩
    rotate_left
    · subst e1
      obtain ⟨m, nx, rfl, hq, h2⟩ := onDfd_some h1
      obtain ⟨md2, hp2, h5, h6⟩ := leaveM_some hok h2
      refine ⟨md2, hp2, h5, fun φ B w ds u fn tmps R g1 hw hds hm hR => ?_⟩
      obtain ⟨g, ds', hg, e, hds'⟩ := hds
      subst e
      have hw' : WR φ B m nx w := hw
      obtain ⟨o, e2, h7⟩ := hw'.blk q _ g hq hg
      have h8 : o = .deferred (some []) := h7
      subst h8
      obtain ⟨s1, s2⟩ := hw'.put (y := .dfd false) (w' := w.putObj g.1 (.deferred none)) (o := .deferred none) hq rfl rfl hg rfl rfl rfl World.putObj_size (fun k hk => World.putObj_heap_other hk) (World.putObj_heap_same (hw'.lt q g hg)) rfl
      refine ⟨hm.run, .inl ⟨g.1, _, rfl, run_takeDeferred e2, ?_⟩⟩
      exact h6 φ B _ ds' u fn tmps R g1 s1 hds' hm fun χ u2 w2 t1 t2 t3 => hR χ u2 w2 t1 (s2.trans t2) t3
    subst e1
    obtain ⟨fn0, first, cap, e2, h2⟩ := AV.on_fn_some h1
    subst e2
    split at h2
    · rename_i fid
      obtain ⟨md1, hp1, h3, h4⟩ := hok.d fid _ md hp _ x h2
      obtain ⟨md2, hp2, h5, h6⟩ := leaveM_some hok h3
      refine ⟨md2, hp2, h5, fun φ B w ds u fn tmps R g1 hw hds hm hR => ?_⟩
      obtain ⟨us, ys, ars, ds', e, v1, v2, v3, hds'⟩ := hds
      subst e
      have hargs : VL φ (first.app (args.app cap)) ((us ++ ars) ++ ys).toList := by
        rw [Array.toList_append, Array.toList_append, List.append_assoc]
        exact VL.app v1 (VL.app v3 v2)
      obtain ⟨c1, c2⟩ := h4 φ B w _ u g1 hw hargs hm
      refine leavesX_cons hm.run (f := fid) (args := (us ++ ars) ++ ys) c1 (c2.mono fun e u' w' he => ?_)
      obtain ⟨⟨v, rfl⟩, ψ, q1, q2, q3⟩ := he
      exact h6 ψ B w' ds' (settle u') fn tmps R (g1.more q2.more) q3 (hds'.more q2.more) q1 fun χ u2 w2 s1 s2 s3 => hR χ u2 w2 s1 (q2.trans s2) s3
    · cases h2
end Go.Proofs.YtngjhkcdhbfkiaaGreatDoor.Clo
end
section
namespace Go.Proofs.YtngjhkcdhbfkiaaGreatDoor.Clo
open Go.RowKit
set_option linter.unusedVariables false
set_option linter.unusedSimpArgs false
set_option linter.constructorNameAsVariable false
def maskOf : List Nat → Nat → Nat
  | [], acc => acc
  | d :: r, acc => maskOf r (Nat.lor acc (bitOf d))
def lessOf (W : Nat) : List Nat → List Nat
  | [] => []
  | d :: r => match W.testBit d with
    | true => lessOf W r
    | false => d :: lessOf W r
def keptOps (ops : Array Oper) : List Oper → Nat → Nat → Nat
  | [], _, acc => acc
  | o :: r, W, acc => keptOps ops r (match o.dst with | some d => Nat.lor W (bitOf d) | none => W) (maskOf (lessOf W (reads ops o)) acc)
def kept : Code → Nat → Nat
  | .region _ ops _, acc => keptOps ops ops.toList 0 acc
  | .seq a b, acc => kept b (kept a acc)
  | .cond c a b, acc => kept b (kept a (maskOf (slotOf c).toList acc))
  | .block _ a, acc => kept a acc
  | .loop a, acc => kept a acc
  | .scope a, acc => kept a acc
  | .rangeFunc g _ a b, acc => kept b (kept a (maskOf (slotOf g).toList acc))
  | _, acc => acc
def resSlots : List ResultVar → List Nat
  | [] => []
  | .tmp d :: r => d :: resSlots r
  | .cell d _ :: r => d :: resSlots r
def loOf (fn : Func) (c : Code) : Nat := kept c (maskOf (resSlots fn.results.toList) 0)
def digs (n : Nat) : Nat := match Nat.blt n 4, Nat.blt n 16, Nat.blt n 64, Nat.blt n 256 with
  | true, _, _, _ => 1
  | _, true, _, _ => 2
  | _, _, true, _ => 3
  | _, _, _, true => 4
  | _, _, _, _ => 5
inductive DM where | mk (f : Hd → AV → AV → HP → KV → R)
noncomputable def DM.run (q : DM) : Hd → AV → AV → HP → KV → R := DM.rec (fun f => f) q
noncomputable def finK (q : QM) (t : Tr) (k : KV) (kp : KP) (md : AV) (hp : HP) : R := match md with
  | .nil => q.run t hp fun l => oneOf l fun v => k v hp
  | .cons v .nil => kp v hp
  | _ => none
section
variable (P : Program) (G fuel : Nat) (fn : Func)
noncomputable def opsOf (dt : Nat) : OpM := fun ds o => match odAll P G dt fn.ntmps ds o with
  | some q => some q.1
  | none => none
noncomputable def kindOf (dt : Nat) (o : Oper) : Kd := match odAll P G dt fn.ntmps [] o with
  | some q => q.1.1
  | none => .eff
noncomputable def bodyM (dt : Nat) (lo : Nat → Bool) (c : Code) : CM := codeM G dt fn.ntmps lo (opsOf P G fn dt) (regM G dt fn.ntmps lo (opsOf P G fn dt) (kindOf P G fn dt)) fuel c
noncomputable def funcM : FM := match fn.body with
  | none => .mk fun _ _ _ _ _ => none
  | some c =>
    let dt := digs fn.ntmps
    let mask := loOf fn c
    let lo := fun d => !mask.testBit d
    let m := bodyM P G fuel fn dt lo c
    let q := resL P dt fn.ntmps fn.results.toList
    let p := path dt fn.ntmps
    match Nat.blt fn.ntmps (4 ^ dt), Nat.ble fn.results.toList.length 5 with
    | true, true => .mk fun hd args hp k kp => match Nat.ble args.len fn.ntmps with
      | true => m.run hd (initT dt lo args 0 .e) hp fun x t hp => Ex.rec (leaveM hd (getT p t) .nil hp (finK q t k kp)) (fun _ => none) (leaveM hd (getT p t) .nil hp (finK q t k kp)) (fun v => leaveM hd (getT p t) (.cons v .nil) hp (finK q t k kp)) x
      | false => none
    | _, _ => .mk fun _ _ _ _ _ => none
noncomputable def recV (md : AV) (k : AV → R) : R := match md with
  | .nil => k .inil
  | .cons v .nil => k v
  | _ => none
def isRec (o : Oper) : Bool := match o.guard, o.op with
  | none, .call c => (match c.callee with | .builtin .recover => true | _ => false)
  | _, _ => false
noncomputable def plainM (dt : Nat) (lo : Nat → Bool) (c : Code) : DM :=
  let q := resL P dt fn.ntmps fn.results.toList
  let p := path dt fn.ntmps
  let m := bodyM P G fuel fn dt lo c
  .mk fun hd args md hp k => match Nat.ble args.len fn.ntmps with
    | true => m.run hd (initT dt lo args 0 .e) hp fun x t hp => match x, getT p t with
      | .normal, .u => q.run t hp fun l => oneOf l fun _ => k md hp
      | .ret, .u => q.run t hp fun l => oneOf l fun _ => k md hp
      | _, _ => none
    | false => none
noncomputable def defM : DM := match fn.body with
  | none => .mk fun _ _ _ _ _ => none
  | some c =>
    let dt := digs fn.ntmps
    let mask := loOf fn c
    let lo := fun d => !mask.testBit d
    let q := resL P dt fn.ntmps fn.results.toList
    let p := path dt fn.ntmps
    match Nat.blt fn.ntmps (4 ^ dt), Nat.ble fn.results.toList.length 5 with
    | true, true => match c with
      | .seq (.region _ ops false) rest => match ops.toList with
        | o :: os => match isRec o, o.dst with
          | true, some d => match Nat.blt d fn.ntmps with
            | true =>
              let m1 := opsM G dt fn.ntmps lo (opsOf P G fn dt) ops os [some d]
              let m2 := bodyM P G fuel fn dt lo rest
              let pd := path dt d
              .mk fun hd args md hp k => match Nat.ble args.len fn.ntmps with
                | true => recV md fun v => m1.run hd.off [v] (Bool.rec ((initT dt lo args 0 .e).set pd v) (initT dt lo args 0 .e) (lo d)) hp fun x t hp => match x with
                  | .normal => m2.run hd t hp fun x t hp => match x, getT p t with
                    | .normal, .u => q.run t hp fun l => oneOf l fun _ => k .nil hp
                    | .ret, .u => q.run t hp fun l => oneOf l fun _ => k .nil hp
                    | _, _ => none
                  | _ => none
                | false => none
            | false => .mk fun _ _ _ _ _ => none
          | _, _ => plainM P G fuel fn dt lo c
        | _ => plainM P G fuel fn dt lo c
      | _ => plainM P G fuel fn dt lo c
    | _, _ => .mk fun _ _ _ _ _ => none
end
section
variable {P : Program} {G : Nat}
def FMOk (P : Program) (G : Nat) (f : FuncId) (m : FM) : Prop := ∀ hd, HdOk P G hd → ∀ args hp k kp r, m.run hd args hp k kp = some r →
  (∃ v hp', k v hp' = some r ∧ ∀ φ (B : Bse hd.y.s) w (ars : Array Value), Glo G φ → WH φ B hp w → VL φ args ars.toList → CallOk P f ars w (Aft φ B hp w v hp')) ∨
  (∃ v hp', kp v hp' = some r ∧ ∀ φ (B : Bse hd.y.s) w (ars : Array Value), Glo G φ → WH φ B hp w → VL φ args ars.toList → CallPan P f ars w (Aft φ B hp w v hp'))
def DMOk (P : Program) (G : Nat) (f : FuncId) (m : DM) : Prop := ∀ hd, HdOk P G hd → ∀ args md hp k r, m.run hd args md hp k = some r → ∃ md' hp', k md' hp' = some r ∧ ∀ φ (B : Bse hd.y.s) w (ars : Array Value) u, Glo G φ → WH φ B hp w → VL φ args ars.toList → ModeR φ md u →
  (callFunc f ars).run P w = .ok (.enter f ars) w ∧ CallsD P f ars u w fun e u' w' => (∃ v, e = .returned v) ∧ ∃ ψ, ModeR ψ md' (settle u') ∧ StH φ hp w ψ hp' w' ∧ WH ψ B hp' w'
theorem opsOf_ok {fn : Func} {dt : Nat} {ds : List (Option Nat)} {o : Oper} {q : Kd × OM} (h : opsOf P G fn dt ds o = some q) : OmOk P G dt fn.ntmps ds o q := by
  unfold opsOf at h
  split at h
  · rename_i q' _; cases h; exact q'.2
  · cases h
theorem bodyM_ok {fuel : Nat} {fn : Func} {dt : Nat} {lo : Nat → Bool} (hmix : P.follows .mixedOrders = true) (c : Code) : CMOk P G dt fn.ntmps lo c (bodyM P G fuel fn dt lo c) :=
  codeM_ok (fun ds o q h => opsOf_ok h) (fun id ops m h => regM_ok hmix (fun ds o q h => opsOf_ok h) h) c
theorem funcM_ok {fuel : Nat} {f : FuncId} {fn : Func} (hmix : P.follows .mixedOrders = true) (hf : P.funcs[f]? = some fn) (hc : ∀ (ars : Array Value) w, (callFunc f ars).run P w = .ok (.enter f ars) w) : FMOk P G f (funcM P G fuel fn) := by
  intro hd hok args hp k kp r hr
  unfold funcM at hr
  cases hb : fn.body with
  | none => simp only [hb] at hr; cases hr
  | some c =>
  simp only [hb] at hr
  generalize hlo : (fun d => !(loOf fn c).testBit d) = lo at hr
  generalize hdt : digs fn.ntmps = dt at hr
  split at hr
  · rename_i hcap h4
    have hcap' : fn.ntmps < 4 ^ dt := by simpa [Nat.blt_eq] using hcap
    have h4' : fn.results.toList.length ≤ 5 := Nat.le_of_ble_eq_true h4
    have hr' : (match Nat.ble args.len fn.ntmps with
      | true => (bodyM P G fuel fn dt lo c).run hd (initT dt lo args 0 .e) hp fun x t hp => Ex.rec (leaveM hd (getT (path dt fn.ntmps) t) .nil hp (finK (resL P dt fn.ntmps fn.results.toList) t k kp)) (fun _ => none) (leaveM hd (getT (path dt fn.ntmps) t) .nil hp (finK (resL P dt fn.ntmps fn.results.toList) t k kp)) (fun v => leaveM hd (getT (path dt fn.ntmps) t) (.cons v .nil) hp (finK (resL P dt fn.ntmps fn.results.toList) t k kp)) x
      | false => none : R) = some r := hr
    split at hr'
    · rename_i hle
      have hle' : args.len ≤ fn.ntmps := Nat.le_of_ble_eq_true hle
      obtain ⟨x, t', hp1, h1, h2⟩ := (bodyM_ok (fuel := fuel) (lo := lo) (dt := dt) (fn := fn) (G := G) hmix c).wp hok hr'
      have leave : ∀ md, leaveM hd (getT (path dt fn.ntmps) t') md hp1 (finK (resL P dt fn.ntmps fn.results.toList) t' k kp) = some r → (∀ ψ x', ExR ψ x x' → ∀ R a' w', (∀ u, ModeR ψ md u → LeavesX P fn a'.tmps R a'.defers u w') → bodyPostX P fn R x' a' w') →
          (∃ v hp', k v hp' = some r ∧ ∀ φ (B : Bse hd.y.s) w (ars : Array Value), Glo G φ → WH φ B hp w → VL φ args ars.toList → CallOk P f ars w (Aft φ B hp w v hp')) ∨
          (∃ v hp', kp v hp' = some r ∧ ∀ φ (B : Bse hd.y.s) w (ars : Array Value), Glo G φ → WH φ B hp w → VL φ args ars.toList → CallPan P f ars w (Aft φ B hp w v hp')) := by
        intro md hl hx
        obtain ⟨md', hp2, h3, h4⟩ := leaveM_some hok hl
        have all : ∀ R : Ending → World → Prop, ∀ φ (B : Bse hd.y.s) w (ars : Array Value), Glo G φ → WH φ B hp w → VL φ args ars.toList →
            (∀ ψ a' χ u' w2, FR χ dt fn.ntmps lo t' a' → ModeR χ md' u' → StH φ hp w χ hp2 w2 → WH χ B hp2 w2 → ψ = χ → Leaves P fn a'.tmps R [] u' w2) → Calls P f ars w R := by
          intro R φ B w ars g1 hw hargs hfin
          refine calls_of_wp_marks hf hb ?_
          refine h2 φ B _ w g1 (enter_ok hcap' hargs hle') hw _ fun ψ a' w' x' f0 f1 f2 f3 => ?_
          refine hx ψ x' f0 R a' w' fun u hu => ?_
          exact h4 ψ B w' a'.defers u fn a'.tmps R (g1.more f2.more) f3 f1.df hu fun χ u' w2 s1 s2 s3 => hfin χ a' χ u' w2 (f1.more s2.more) s1 (f2.trans s2) s3 rfl
        unfold finK at h3
        split at h3
        · obtain ⟨l, h5, h6⟩ := resL_some (lo := lo) h3
          have hone : ∃ v, k v hp2 = some r ∧ ∀ φ (B : Bse hd.y.s) (a : Act) w, FR φ dt fn.ntmps lo t' a → WH φ B hp2 w → ∃ v', (results fn a.tmps).run P w = .ok v' w ∧ VR φ v v' := by
            obtain ⟨v, q1, q2⟩ := results_ok (P := P) (fn := fn) h4' h5
            refine ⟨v, q1, fun φ B a w hfr hw => ?_⟩
            obtain ⟨vs, v1, v2, v3⟩ := h6 φ B a w hfr hw
            exact q2 φ a.tmps w vs v1 v2 v3
          obtain ⟨v, h7, h8⟩ := hone
          refine .inl ⟨v, hp2, h7, fun φ B w ars g1 hw hargs => .inl ⟨hc ars w, all _ φ B w ars g1 hw hargs fun ψ a' χ u' w2 s0 s1 s2 s3 _ => ?_⟩⟩
          have hu : u' = .returning := s1
          subst hu
          obtain ⟨v', q1, q2⟩ := h8 χ B a' w2 s0 s3
          exact ⟨v', q1, v', rfl, χ, q2, s2, s3⟩
        · rename_i v
          refine .inr ⟨v, hp2, h3, fun φ B w ars g1 hw hargs => ⟨hc ars w, all _ φ B w ars g1 hw hargs fun ψ a' χ u' w2 s0 s1 s2 s3 _ => ?_⟩⟩
          obtain ⟨v', e, q⟩ := s1
          subst e
          exact ⟨v', rfl, χ, q, s2, s3⟩
        · cases h3
      cases x with
      | normal => exact leave .nil h1 fun ψ x' f0 R a' w' hl => by have : x' = .normal := f0; subst this; exact hl .returning rfl
      | exit i => cases h1
      | ret => exact leave .nil h1 fun ψ x' f0 R a' w' hl => by have : x' = .ret := f0; subst this; exact hl .returning rfl
      | pan v => exact leave (.cons v .nil) h1 fun ψ x' f0 R a' w' hl => by obtain ⟨v', e, hv⟩ := f0; subst e; exact hl (.panicking (one v')) ⟨v', rfl, hv⟩
    · cases hr'
  · cases hr
end
end Go.Proofs.YtngjhkcdhbfkiaaGreatDoor.Clo
end
