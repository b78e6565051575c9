/- Part 12 of a proof laid in parts, one behind the other; no condition of its own. -/
import Derived.Test.YtobaebpmdimljaaGreatDoorZ11
set_option linter.all false
section
namespace Go.Proofs.YtobaebpmdimljaaGreatDoor.Clo
open Go.RowKit
set_option linter.unusedVariables false
set_option linter.unusedSimpArgs false
set_option linter.constructorNameAsVariable false
section
variable (P : Program) (G dt n : Nat) (lo : Nat → Bool) (opM : OpM) (ops : Array Oper) (ms : List Nat) (kindM : Oper → Kd)
noncomputable def wipe : List Oper → Tr → Tr
  | [], t => t
  | o :: r, t => wipe r (match o.dst with
    | none => t
    | some d => if lo d then t else if d < n then t.set (path dt d) .u else t)
noncomputable def planM : List PI → List (Option Nat) → RM
  | [], _ => .mk fun _ _ t hp k => k .normal t hp
  | .run i :: r, ds => match ops[i]? with
    | none => .mk fun _ _ _ _ _ => none
    | some o => match opM ds o with
      | none => .mk fun _ _ _ _ _ => none
      | some (kd, m) => match kd.same (kindM o) with
        | false => .mk fun _ _ _ _ _ => none
        | true =>
          let m := wantedM G dt n ds ops o m
          let q := planM r (o.dst :: ds)
          match o.dst with
          | none => .mk fun hd e t hp k => m.run hd e t hp (fun v hp => q.run hd (v :: e) t hp k) fun v hp => k (.pan v) (wipe dt n lo ops.toList t) hp
          | some d => if d < n then (if lo d then .mk fun hd e t hp k => m.run hd e t hp (fun v hp => q.run hd (v :: e) t hp k) fun v hp => k (.pan v) (wipe dt n lo ops.toList t) hp
              else let p := path dt d; .mk fun hd e t hp k => m.run hd e t hp (fun v hp => q.run hd (v :: e) (t.set p v) hp k) fun v hp => k (.pan v) (wipe dt n lo ops.toList t) hp)
            else .mk fun _ _ _ _ _ => none
  | .chk i :: r, ds => match ops[i]? with
    | none => .mk fun _ _ _ _ _ => none
    | some o => match opM ds o, o.dst with
      | some (kd, m), some d => match kd.same .still, idx d ds with
        | true, some j =>
          let m := wantedM G dt n ds ops o m
          let q := planM r ds
          .mk fun hd e t hp k => m.run hd e t hp (fun v _ => Bool.rec none (q.run hd e t hp k) (eqA v (envAt j e))) fun _ _ => none
        | _, _ => .mk fun _ _ _ _ _ => none
      | _, _ => .mk fun _ _ _ _ _ => none
def RdA (A : Operand → AV) (φ : Id → Option Plc) (a : Act) (o : Oper) : Prop :=
  (∀ x ∈ o.op.operands, VR φ (A x) (a.eval x)) ∧ ∀ d, gslot ops o = some d → VR φ (A (.tmp d)) (a.eval (.tmp d))
def Wtd (o : Oper) (a : Act) : Prop := Region.wanted o (yielded ops a.tmps) = true
def NotW (o : Oper) (A : Operand → AV) (v : AV) : Prop := v = undefA ∧ ∀ φ (a : Act), RdA ops A φ a o → ¬ Wtd ops o a
def FactP (o : Oper) (A : Operand → AV) (v : AV) : Prop := NotW ops o A v ∨ ∀ φ (a : Act) w, RdA ops A φ a o → Wtd ops o a ∧ ∃ v', (execOp a.eval o).run P w = .ok (.value v') w ∧ VR φ v v'
def FactS (o : Oper) (A : Operand → AV) (v : AV) (hp : HP) : Prop := NotW ops o A v ∨ ∀ φ (a : Act) w, Glo G φ → RdA ops A φ a o → RH φ hp w → Wtd ops o a ∧ ∃ v', (execOp a.eval o).run P w = .ok (.value v') w ∧ VR φ v v'
def MakeAt (o : Oper) (A : Operand → AV) (v : AV) (r : Id) (x : Blk) : Prop := ∀ φ (a : Act) w, Glo G φ → RdA ops A φ a o → Wtd ops o a ∧ ∃ v' ob K w', (execOp a.eval o).run P w = .ok (.value v') w' ∧ NewW w ob w' ∧ x.says φ K ob ∧ ∀ ψ, More φ ψ → ψ r = some (w.heap.size, K) → VR ψ v v'
def FactM (o : Oper) (A : Operand → AV) (v : AV) (hp hp' : HP) (r : Option Id) : Prop :=
  (NotW ops o A v ∧ hp' = hp ∧ r = none) ∨ ∃ m nx x, hp = .mk m nx ∧ last nx = false ∧ x.ro = false ∧ hp' = .mk (m.set nx x) (inc nx) ∧ r = some nx ∧ MakeAt P G ops o A v nx x
def FactE (yy : Ys) (o : Oper) (A : Operand → AV) (v : AV) (hp hp' : HP) : Prop := ∀ φ (B : Bse yy.s) a w, Glo G φ → RdA ops A φ a o → WH φ B hp w → ∀ (K : Act → World → Prop) Q,
  (∀ v' w', Aft φ B hp w v hp' v' w' → K (a.put o.dst v') w') → if Region.wanted o (yielded ops a.tmps) = true then OW yy.on P o a w K Q else K (a.put o.dst undef) w
def FactX (yy : Ys) (o : Oper) (A : Operand → AV) (v : AV) (hp hp' : HP) : Prop := ∀ φ (B : Bse yy.s) a w, Glo G φ → RdA ops A φ a o → WH φ B hp w → ∀ (K : Act → World → Prop) Q,
  (∀ v' w', Aft φ B hp w v hp' v' w' → Q (.panic (one v')) a w') → if Region.wanted o (yielded ops a.tmps) = true then OW yy.on P o a w K Q else K (a.put o.dst undef) w
def Wr (i d : Nat) : Option Nat := (List.range ops.size).find? fun j => (ms.getD i 0).testBit j && ((ops[j]?).bind (·.dst)) == some d
noncomputable def Ax (val : Nat → AV) (t0 : Tr) (i : Nat) : Operand → AV
  | .tmp d => match Wr ops ms i d with
    | some j => val j
    | none => if d < n then getT (path dt d) t0 else .u
  | x => (opd G dt n [] x).run [] t0
def upd (val : Nat → AV) (i : Nat) (v : AV) : Nat → AV := fun j => if j = i then v else val j
noncomputable def putT (t : Tr) (d : Option Nat) (v : AV) : Tr := match d with
  | none => t
  | some d => if lo d then t else t.set (path dt d) v
def Trace (yy : Ys) (t0 : Tr) : List PI → (Nat → AV) → (Nat → Option Id) → Tr → HP → Ex → Tr → HP → Prop
  | [], val, rid, t, hp, x, t', hp' => x = .normal ∧ t' = t ∧ hp' = hp
  | .run i :: r, val, rid, t, hp, x, t', hp' => ∃ o, ops[i]? = some o ∧ (∀ d, o.dst = some d → d < n) ∧ match kindM o with
    | .pure => ∃ v, FactP P ops o (Ax G dt n ops ms val t0 i) v ∧ Trace yy t0 r (upd val i v) rid (putT dt lo t o.dst v) hp x t' hp'
    | .still => ∃ v, FactS P G ops o (Ax G dt n ops ms val t0 i) v hp ∧ Trace yy t0 r (upd val i v) rid (putT dt lo t o.dst v) hp x t' hp'
    | .make => ∃ v hp1 r0, FactM P G ops o (Ax G dt n ops ms val t0 i) v hp hp1 r0 ∧ Trace yy t0 r (upd val i v) (fun j => if j = i then r0 else rid j) (putT dt lo t o.dst v) hp1 x t' hp'
    | .eff => (∃ v hp1, FactE P G ops yy o (Ax G dt n ops ms val t0 i) v hp hp1 ∧ Trace yy t0 r (upd val i v) rid (putT dt lo t o.dst v) hp1 x t' hp') ∨
      (∃ v hp1, FactX P G ops yy o (Ax G dt n ops ms val t0 i) v hp hp1 ∧ x = .pan v ∧ t' = wipe dt n lo ops.toList t ∧ hp' = hp1)
  | .chk i :: r, val, rid, t, hp, x, t', hp' => ∃ o, ops[i]? = some o ∧ FactS P G ops o (Ax G dt n ops ms val t0 i) (val i) hp ∧ Trace yy t0 r val rid t hp x t' hp'
end
section
variable {P : Program} {G dt n : Nat} {lo : Nat → Bool} {opM : OpM} {ops : Array Oper} {ms : List Nat} {kindM : Oper → Kd} {t0 : Tr}
theorem wtd_of {o : Oper} {a : Act} {φ : Id → Option Plc} {A : Operand → AV} (hr : RdA ops A φ a o) {j : Nat} {w : Bool} (hg : o.guard = some (j, w)) {d : Nat} (hj : (ops[j]?).bind (·.dst) = some d) : VR φ (A (.tmp d)) (a.tmps.getD d undef) :=
  hr.2 d (by unfold gslot; rw [hg]; exact hj)
theorem wantedM_cases {ds : List (Option Nat)} {o : Oper} {m : OM} {hd : Hd} {e : Env} {t : Tr} {hp : HP} {k : KV} {kp : KP} {r : AV × HP} {A : Operand → AV} (hA : ∀ d, gslot ops o = some d → (opd G dt n ds (.tmp d)).run e t = A (.tmp d))
    (hr : (wantedM G dt n ds ops o m).run hd e t hp k kp = some r) :
    (m.run hd e t hp k kp = some r ∧ ∀ φ (a : Act), RdA ops A φ a o → Wtd ops o a) ∨ (k undefA hp = some r ∧ ∀ φ (a : Act), RdA ops A φ a o → ¬ Wtd ops o a) := by
  unfold wantedM at hr
  cases hg : o.guard with
  | none =>
    simp only [hg] at hr
    exact .inl ⟨hr, fun φ a _ => by simp [Wtd, Region.wanted, hg]⟩
  | some jw =>
    obtain ⟨j, w⟩ := jw
    simp only [hg] at hr
    cases hj : (ops[j]?).bind (·.dst) with
    | none => simp only [hj] at hr; cases hr
    | some d =>
      simp only [hj] at hr
      have hA' := hA d (by unfold gslot; rw [hg]; exact hj)
      have hw := fun a : Act => wanted_of hg hj a
      have go : (((opd G dt n ds (.tmp d)).run e t = .b w ∧ m.run hd e t hp k kp = some r) ∨ (((∃ l, (opd G dt n ds (.tmp d)).run e t = .tu l) ∨ (opd G dt n ds (.tmp d)).run e t = .b (!w)) ∧ k undefA hp = some r)) →
          (m.run hd e t hp k kp = some r ∧ ∀ φ (a : Act), RdA ops A φ a o → Wtd ops o a) ∨ (k undefA hp = some r ∧ ∀ φ (a : Act), RdA ops A φ a o → ¬ Wtd ops o a) := by
        intro hc
        rcases hc with ⟨h1, h2⟩ | ⟨h1, h2⟩
        · refine .inl ⟨h2, fun φ a hra => ?_⟩
          have hv := wtd_of hra hg hj
          rw [← hA', h1] at hv
          have hv' : a.tmps.getD d undef = .bool w := hv
          unfold Wtd
          rw [hw a, hv']; simp
        · refine .inr ⟨h2, fun φ a hra => ?_⟩
          have hv := wtd_of hra hg hj
          unfold Wtd
          rw [hw a]
          rcases h1 with ⟨l, h1⟩ | h1
          · rw [← hA', h1] at hv
            obtain ⟨xs, hv', _⟩ := hv
            have hv'' : a.tmps.getD d undef = .tuple xs := hv'
            rw [hv'']
            simp
          · rw [← hA', h1] at hv
            have hv'' : a.tmps.getD d undef = .bool (!w) := hv
            rw [hv'']
            cases w <;> simp
      cases w with
      | true => exact go (guardB_some hr)
      | false => exact go (guardN_some hr)
structure EnvInv (dt n : Nat) (lo : Nat → Bool) (ops : Array Oper) (t0 : Tr) (ds : List (Option Nat)) (e : Env) (t : Tr) (val : Nat → AV) (D : Nat) : Prop where
  e1 : ∀ d j', idx d ds = some j' → ∃ j o, ops[j]? = some o ∧ o.dst = some d ∧ D.testBit j = true ∧ envAt j' e = val j
  e2 : ∀ j o d, ops[j]? = some o → D.testBit j = true → o.dst = some d → idx d ds ≠ none
  e3 : ∀ d, d < n → idx d ds = none → getT (path dt d) t = getT (path dt d) t0
theorem wr_some {i d j : Nat} (h : Wr ops ms i d = some j) : (ms.getD i 0).testBit j = true ∧ ∃ o, ops[j]? = some o ∧ o.dst = some d := by
  have := List.find?_some h
  simp only [Bool.and_eq_true, beq_iff_eq] at this
  obtain ⟨o, ho, hd⟩ := Option.bind_eq_some_iff.1 this.2
  exact ⟨this.1, o, ho, hd⟩
theorem wr_none {i d : Nat} (h : Wr ops ms i d = none) {j : Nat} {o : Oper} (hj : ops[j]? = some o) (hm : (ms.getD i 0).testBit j = true) : o.dst ≠ some d := by
  have hlt : j < ops.size := (Array.getElem?_eq_some_iff.1 hj).1
  have := List.find?_eq_none.1 h j (List.mem_range.2 hlt)
  simp only [Bool.and_eq_true, beq_iff_eq, not_and] at this
  intro hd
  exact this hm (by simp [hj, hd])
theorem evalA (hon : onceB (dstsOf ops) = true) {ds : List (Option Nat)} {e : Env} {t : Tr} {val : Nat → AV} {D i : Nat} {o : Oper} (hi : EnvInv dt n lo ops t0 ds e t val D) (ho : ops[i]? = some o) (hsub : subB (ms.getD i 0) D = true)
    (hsl : slotsB ops ms i D (reads ops o) = true) (hself : D.testBit i = false ∨ ∀ d, o.dst = some d → d ∉ reads ops o) :
    (∀ x ∈ o.op.operands, (opd G dt n ds x).run e t = Ax G dt n ops ms val t0 i x) ∧ ∀ d, gslot ops o = some d → (opd G dt n ds (.tmp d)).run e t = Ax G dt n ops ms val t0 i (.tmp d) := by
  have tmp : ∀ d ∈ reads ops o, (opd G dt n ds (.tmp d)).run e t = Ax G dt n ops ms val t0 i (.tmp d) := by
    intro d hd
    cases hx : idx d ds with
    | some j' =>
      have h1 : opd G dt n ds (.tmp d) = .mk fun e _ => envAt j' e := by simp only [opd, hx]
      rw [h1]
      obtain ⟨j, p, hj, hp, hD, hv⟩ := hi.e1 d j' hx
      show envAt j' e = _
      rw [hv]
      rcases slotsB_ok hsl hd hj hp with h | h | ⟨_, h⟩
      · subst h
        rw [ho] at hj
        cases hj
        rcases hself with h | h
        · rw [hD] at h; cases h
        · exact absurd hd (h d hp)
      · have hw : Wr ops ms i d = some j := by
          cases hwr : Wr ops ms i d with
          | none => exact absurd hp (wr_none hwr hj h)
          | some j2 =>
            obtain ⟨_, o2, ho2, hd2⟩ := wr_some hwr
            rw [once_ok hon hj ho2 hp hd2]
        simp only [Ax, hw]
      · rw [hD] at h; cases h
    | none =>
      have hw : Wr ops ms i d = none := by
        cases hwr : Wr ops ms i d with
        | none => rfl
        | some j2 =>
          obtain ⟨hm, o2, ho2, hd2⟩ := wr_some hwr
          exact absurd hx (hi.e2 j2 o2 d ho2 (subB_ok hsub hm) hd2)
      simp only [Ax, hw]
      by_cases hdn : d < n
      · have h1 : opd G dt n ds (.tmp d) = .mk fun _ t => getT (path dt d) t := by simp only [opd, hx, hdn, if_true]
        rw [h1, if_pos hdn]
        exact hi.e3 d hdn hx
      · have h1 : opd G dt n ds (.tmp d) = .mk fun _ _ => .u := by simp only [opd, hx, hdn, if_false]
        rw [h1, if_neg hdn]
        rfl
  refine ⟨fun x hx => ?_, fun d hd => tmp d (by simp [reads, hd])⟩
  cases x with
  | tmp d => exact tmp d (by simp only [reads, List.mem_append, List.mem_filterMap]; exact .inr ⟨_, Array.mem_toList_iff.2 hx, rfl⟩)
  | const v => rfl
  | func f => rfl
  | _ =>
    rename_i g
    simp only [Ax, opd]; split <;> rfl
theorem rdA_ops {A : Operand → AV} {φ : Id → Option Plc} {a : Act} {o : Oper} {ds : List (Option Nat)} {e : Env} {t : Tr} (hA : ∀ x ∈ o.op.operands, (opd G dt n ds x).run e t = A x) (h : RdA ops A φ a o) : OpsR G dt n ds φ e t a.eval o.op := fun x hx => by rw [hA x hx]; exact h.1 x hx
theorem EnvInv.run {ds : List (Option Nat)} {e : Env} {t : Tr} {val : Nat → AV} {D i : Nat} {o : Oper} {v : AV} (hn : n ≤ 4 ^ dt) (hi : EnvInv dt n lo ops t0 ds e t val D) (ho : ops[i]? = some o) (hD : D.testBit i = false) (hd : ∀ d, o.dst = some d → d < n) :
    EnvInv dt n lo ops t0 (o.dst :: ds) (v :: e) (putT dt lo t o.dst v) (upd val i v) (Nat.lor D (bitOf i)) := by
  refine ⟨fun d j' h => ?_, fun j p d hj hb hp => ?_, fun d hdn h => ?_⟩
  · unfold idx at h
    split at h
    · rename_i hdst
      cases h
      exact ⟨i, o, ho, hdst, bit_or.2 (.inr rfl), by simp only [upd, if_true]; rfl⟩
    · obtain ⟨j1, hj1, rfl⟩ := Option.map_eq_some_iff.1 h
      obtain ⟨j, p, h1, h2, h3, h4⟩ := hi.e1 d j1 hj1
      have hne : j ≠ i := fun e => by subst e; rw [hD] at h3; cases h3
      exact ⟨j, p, h1, h2, bit_or.2 (.inl h3), by simp only [upd, hne, if_false]; exact h4⟩
  · unfold idx
    split
    · simp
    · rename_i hne
      rcases bit_or.1 hb with hb | rfl
      · have := hi.e2 j p d hj hb hp
        cases hx : idx d ds with
        | none => exact absurd hx this
        | some _ => simp
      · rw [ho] at hj
        cases hj
        exact absurd hp hne
  · unfold idx at h
    split at h
    · cases h
    · rename_i hne
      have h' : idx d ds = none := by
        cases hx : idx d ds with
        | none => rfl
        | some _ => rw [hx] at h; cases h
      rw [← hi.e3 d hdn h']
      cases hds : o.dst with
      | none => rfl
      | some d' =>
        have hdd : d ≠ d' := fun e => hne (by rw [hds, e])
        show getT (path dt d) (if lo d' then t else t.set (path dt d') v) = getT (path dt d) t
        split
        · rfl
        · have hp : path dt d ≠ path dt d' := fun e => hdd (path_inj dt d d' (Nat.lt_of_lt_of_le hdn hn) (Nat.lt_of_lt_of_le (hd d' hds) hn) e)
          rw [getT_get, T4.get_set_other _ _ _ _ (by rw [path_len, path_len]) hp, ← getT_get]
theorem trace_of (hn : n ≤ 4 ^ dt) (hon : onceB (dstsOf ops) = true) (hop : ∀ ds o q, opM ds o = some q → OmOk P G dt n ds o q) {hd : Hd} (hok : HdOk P G hd) : ∀ (pl : List PI) (ds : List (Option Nat)) (e : Env) (t : Tr) (hp : HP) (val : Nat → AV) (rid : Nat → Option Id) (D E : Nat) (C : List Nat) (k : KC) (r : AV × HP),
    planB ops ms kindM pl D E C = true → EnvInv dt n lo ops t0 ds e t val D → (∀ c ∈ C, D.testBit c = true ∧ subB (ms.getD c 0) D = true) → (∀ i, D.testBit i = true → subB (ms.getD i 0) D = true) → (planM G dt n lo opM ops kindM pl ds).run hd e t hp k = some r →
    ∃ x t' hp', k x t' hp' = some r ∧ Trace P G dt n lo ops ms kindM hd.y t0 pl val rid t hp x t' hp'
  | [], ds, e, t, hp, val, rid, D, E, C, k, r, hpl, hi, hC, hDs, hr => ⟨.normal, t, hp, hr, rfl, rfl, rfl⟩
  | .run i :: pl, ds, e, t, hp, val, rid, D, E, _ :: _, k, r, hpl, hi, hC, hDs, hr => by cases hpl
  | .chk i :: pl, ds, e, t, hp, val, rid, D, E, [], k, r, hpl, hi, hC, hDs, hr => by cases hpl
  | .run i :: pl, ds, e, t, hp, val, rid, D, E, [], k, r, hpl, hi, hC, hDs, hr => by
    unfold planB at hpl
    unfold planM at hr
    cases ho : ops[i]? with
    | none => simp only [ho] at hr; cases hr
    | some o =>
    simp only [ho] at hr hpl
    cases hom : opM ds o with
    | none => simp only [hom] at hr; cases hr
    | some km =>
    obtain ⟨kd, m⟩ := km
    simp only [hom] at hr
    split at hr
    · cases hr
    rename_i hkd
    have hkd' := Kd.same_eq hkd
    simp only [Bool.and_eq_true, Bool.not_eq_true'] at hpl
    obtain ⟨⟨⟨⟨h1, h2⟩, h3⟩, h4⟩, h5⟩ := hpl
    obtain ⟨hA, hAg⟩ := evalA (G := G) hon hi ho h2 h4 (.inl h1)
    have hm := hop ds o _ hom
    have main : ∀ (t2 : AV → Tr), (∀ d, o.dst = some d → d < n) → (∀ v, t2 v = putT dt lo t o.dst v) →
        (wantedM G dt n ds ops o m).run hd e t hp (fun v hp => (planM G dt n lo opM ops kindM pl (o.dst :: ds)).run hd (v :: e) (t2 v) hp k) (fun v hp => k (.pan v) (wipe dt n lo ops.toList t) hp) = some r →
        ∃ x t' hp', k x t' hp' = some r ∧ Trace P G dt n lo ops ms kindM hd.y t0 (.run i :: pl) val rid t hp x t' hp' := by
      intro t2 hdl ht2 hrun
      have hDs' : ∀ j, (Nat.lor D (bitOf i)).testBit j = true → subB (ms.getD j 0) (Nat.lor D (bitOf i)) = true := by
        intro j hj
        have mono : ∀ a, subB a D = true → subB a (Nat.lor D (bitOf i)) = true := by
          intro a ha
          have e : a &&& (D ||| bitOf i) = a := by
           apply Nat.eq_of_testBit_eq
           intro q
           rw [Nat.testBit_and, Nat.testBit_or]
           cases hq : a.testBit q with
           | false => rfl
           | true => rw [subB_ok ha hq]; rfl
          show Nat.beq (a &&& (D ||| bitOf i)) a = true
          rw [e, Nat.beq_refl]
        rcases bit_or.1 hj with hj | rfl
        · exact mono _ (hDs j hj)
        · exact mono _ h2
      have next : ∀ v hp1 rid', (∀ E' C', (planB ops ms kindM pl (Nat.lor D (bitOf i)) E' C' = true → (∀ c ∈ C', (Nat.lor D (bitOf i)).testBit c = true) → (planM G dt n lo opM ops kindM pl (o.dst :: ds)).run hd (v :: e) (t2 v) hp1 k = some r →
          ∃ x t' hp', k x t' hp' = some r ∧ Trace P G dt n lo ops ms kindM hd.y t0 pl (upd val i v) rid' (putT dt lo t o.dst v) hp1 x t' hp')) := by
        intro v hp1 rid' E' C' hpb hC' hrn
        rw [ht2 v] at hrn
        exact trace_of hn hon hop hok pl _ _ _ hp1 (upd val i v) rid' _ E' C' k r hpb (EnvInv.run hn hi ho h1 hdl) (fun c hc => ⟨hC' c hc, hDs' c (hC' c hc)⟩) hDs' hrn
      have dueC : ∀ c ∈ due ms kindM i D ops.toList 0, (Nat.lor D (bitOf i)).testBit c = true := by
        have : ∀ (l : List Oper) (j0 : Nat), ∀ c ∈ due ms kindM i D l j0, D.testBit c = true := by
          intro l
          induction l with
          | nil => intro j0 c hc; cases hc
          | cons o l ih =>
            intro j0 c hc
            unfold due at hc
            split at hc
            · rename_i hb _ _
              rcases List.mem_cons.1 hc with rfl | hc
              · exact hb
              · exact ih _ c hc
            · exact ih _ c hc
        exact fun c hc => bit_or.2 (.inl (this _ _ c hc))
      cases kd with
      | pure =>
        obtain ⟨F, hF, hok1⟩ := hm
        have hm' : m = .mk (fun _ e t hp k _ => F e t hp k) := hF
        have hb : planB ops ms kindM pl (Nat.lor D (bitOf i)) E [] = true := by rw [← hkd'] at h5; exact h5
        rcases wantedM_cases hAg hrun with ⟨h6, h7⟩ | ⟨h6, h7⟩
        · rw [hm'] at h6
          obtain ⟨v, h8, h9⟩ := hok1 e t hp _ r h6
          obtain ⟨x, t', hp', k1, k2⟩ := next v hp rid E [] hb (fun _ h => by cases h) h8
          refine ⟨x, t', hp', k1, o, ho, hdl, ?_⟩
          rw [← hkd']
          exact ⟨v, .inr fun φ a w hra => ⟨h7 φ a hra, h9 φ a w (rdA_ops hA hra)⟩, k2⟩
        · obtain ⟨x, t', hp', k1, k2⟩ := next undefA hp rid E [] hb (fun _ h => by cases h) h6
          refine ⟨x, t', hp', k1, o, ho, hdl, ?_⟩
          rw [← hkd']
          exact ⟨undefA, .inl ⟨rfl, h7⟩, k2⟩
      | still =>
        obtain ⟨F, hF, hok1⟩ := hm
        have hm' : m = .mk (fun _ e t hp k _ => F e t hp k) := hF
        have hb : planB ops ms kindM pl (Nat.lor D (bitOf i)) E [] = true := by rw [← hkd'] at h5; exact h5
        rcases wantedM_cases hAg hrun with ⟨h6, h7⟩ | ⟨h6, h7⟩
        · rw [hm'] at h6
          obtain ⟨v, h8, h9⟩ := hok1 e t hp _ r h6
          obtain ⟨x, t', hp', k1, k2⟩ := next v hp rid E [] hb (fun _ h => by cases h) h8
          refine ⟨x, t', hp', k1, o, ho, hdl, ?_⟩
          rw [← hkd']
          exact ⟨v, .inr fun φ a w g1 hra g3 => ⟨h7 φ a hra, h9 φ a w g1 (rdA_ops hA hra) g3⟩, k2⟩
        · obtain ⟨x, t', hp', k1, k2⟩ := next undefA hp rid E [] hb (fun _ h => by cases h) h6
          refine ⟨x, t', hp', k1, o, ho, hdl, ?_⟩
          rw [← hkd']
          exact ⟨undefA, .inl ⟨rfl, h7⟩, k2⟩
      | make =>
        obtain ⟨F, hF, hok1⟩ := hm
        have hm' : m = .mk (fun _ e t hp k _ => F e t hp k) := hF
        have hb : planB ops ms kindM pl (Nat.lor D (bitOf i)) E [] = true := by rw [← hkd'] at h5; exact h5
        rcases wantedM_cases hAg hrun with ⟨h6, h7⟩ | ⟨h6, h7⟩
        · rw [hm'] at h6
          obtain ⟨mm, nx, v, x0, e1, e2, e3, h8, h9⟩ := hok1 e t hp _ r h6
          obtain ⟨x, t', hp', k1, k2⟩ := next v _ (fun j => if j = i then some nx else rid j) E [] hb (fun _ h => by cases h) h8
          refine ⟨x, t', hp', k1, o, ho, hdl, ?_⟩
          rw [← hkd']
          exact ⟨v, _, some nx, .inr ⟨mm, nx, x0, e1, e2, e3, rfl, rfl, fun φ a w g1 hra => ⟨h7 φ a hra, h9 φ a w g1 (rdA_ops hA hra)⟩⟩, k2⟩
        · obtain ⟨x, t', hp', k1, k2⟩ := next undefA hp (fun j => if j = i then none else rid j) E [] hb (fun _ h => by cases h) h6
          refine ⟨x, t', hp', k1, o, ho, hdl, ?_⟩
          rw [← hkd']
          exact ⟨undefA, hp, none, .inl ⟨⟨rfl, h7⟩, rfl, rfl⟩, k2⟩
      | eff =>
        have hb : planB ops ms kindM pl (Nat.lor D (bitOf i)) (Nat.lor E (bitOf i)) (due ms kindM i D ops.toList 0) = true := by rw [← hkd'] at h5; exact h5
        rcases wantedM_cases hAg hrun with ⟨h6, h7⟩ | ⟨h6, h7⟩
        · rcases (show OpOk P G dt n ds o m from hm) hd hok e t hp _ _ r h6 with ⟨v, hp1, h8, h9⟩ | ⟨v, hp1, h8, h9⟩
          · obtain ⟨x, t', hp', k1, k2⟩ := next v hp1 rid _ _ hb dueC h8
            refine ⟨x, t', hp', k1, o, ho, hdl, ?_⟩
            rw [← hkd']
            exact .inl ⟨v, hp1, fun φ B a w g1 hra g3 K Q hK => by rw [if_pos (show Region.wanted o (yielded ops a.tmps) = true from h7 φ a hra)]; exact h9 φ B a w g1 (rdA_ops hA hra) g3 K Q hK, k2⟩
          · refine ⟨.pan v, _, hp1, h8, o, ho, hdl, ?_⟩
            rw [← hkd']
            exact .inr ⟨v, hp1, fun φ B a w g1 hra g3 K Q hK => by rw [if_pos (show Region.wanted o (yielded ops a.tmps) = true from h7 φ a hra)]; exact h9 φ B a w g1 (rdA_ops hA hra) g3 K Q hK, rfl, rfl, rfl⟩
        · obtain ⟨x, t', hp', k1, k2⟩ := next undefA hp rid _ _ hb dueC h6
          refine ⟨x, t', hp', k1, o, ho, hdl, ?_⟩
          rw [← hkd']
          exact .inl ⟨undefA, hp, fun φ B a w g1 hra g3 K Q hK => by rw [if_neg (show ¬ (Region.wanted o (yielded ops a.tmps) = true) from h7 φ a hra)]; exact hK undef w ⟨φ, undefA_ok φ, Step.refl, g3⟩, k2⟩
    cases hds : o.dst with
    | none =>
      simp only [hds] at hr
      exact main (fun _ => t) (fun d e => by rw [hds] at e; cases e) (fun v => by rw [hds]; rfl) (by rw [hds]; exact hr)
    | some d =>
      simp only [hds] at hr
      by_cases hdn : d < n
      · simp only [hdn, if_true] at hr
        by_cases hl : lo d = true
        · simp only [hl, if_true] at hr
          exact main (fun _ => t) (fun d' e => by rw [hds] at e; cases e; exact hdn) (fun v => by rw [hds]; simp [putT, hl]) (by rw [hds]; exact hr)
        · simp only [hl, if_false, Bool.false_eq_true] at hr
          exact main (fun v => t.set (path dt d) v) (fun d' e => by rw [hds] at e; cases e; exact hdn) (fun v => by rw [hds]; simp [putT, hl]) (by rw [hds]; exact hr)
      · simp only [hdn, if_false] at hr
        cases hr
  | .chk i :: pl, ds, e, t, hp, val, rid, D, E, c :: C, k, r, hpl, hi, hC, hDs, hr => by
    unfold planB at hpl
    unfold planM at hr
    cases ho : ops[i]? with
    | none => simp only [ho] at hr; cases hr
    | some o =>
    simp only [ho] at hr hpl
    split at hr
    · rename_i kd m d hom hds
      split at hr
      · rename_i j hkd hj
        have hkd' := Kd.same_eq hkd
        subst hkd'
        simp only [Bool.and_eq_true, hds, Bool.not_eq_true'] at hpl
        obtain ⟨⟨⟨h1, h2⟩, h3⟩, h4⟩ := hpl
        have h1' : i = c := Nat.eq_of_beq_eq_true h1
        subst h1'
        obtain ⟨hDi, hsub⟩ := hC i (by simp)
        have hnr : ∀ d', o.dst = some d' → d' ∉ reads ops o := fun d' e hm => by rw [hds] at e; cases e; simp [hm] at h3
        obtain ⟨hA, hAg⟩ := evalA (G := G) hon hi ho hsub h2 (.inr hnr)
        obtain ⟨F, hF, hok1⟩ := hop ds o _ hom
        have hm' : m = .mk (fun _ e t hp k _ => F e t hp k) := hF
        have hval : envAt j e = val i := by
          obtain ⟨j2, o2, e1, e2, e3, e4⟩ := hi.e1 d j hj
          rw [once_ok hon e1 ho e2 hds] at e4
          exact e4
        have fin : ∀ v, (Bool.rec none ((planM G dt n lo opM ops kindM pl ds).run hd e t hp k) (eqA v (envAt j e)) : R) = some r → v = val i ∧ (planM G dt n lo opM ops kindM pl ds).run hd e t hp k = some r := by
          intro v h
          cases hq : eqA v (envAt j e) with
          | false => rw [hq] at h; cases h
          | true => rw [hq] at h; exact ⟨(eqA_eq hq).trans hval, h⟩
        have go : ∀ v, (Bool.rec none ((planM G dt n lo opM ops kindM pl ds).run hd e t hp k) (eqA v (envAt j e)) : R) = some r → FactS P G ops o (Ax G dt n ops ms val t0 i) v hp →
            ∃ x t' hp', k x t' hp' = some r ∧ Trace P G dt n lo ops ms kindM hd.y t0 (.chk i :: pl) val rid t hp x t' hp' := by
          intro v h hf
          obtain ⟨hv, h6⟩ := fin v h
          subst hv
          obtain ⟨x, t', hp', k1, k2⟩ := trace_of hn hon hop hok pl ds e t hp val rid D E C k r h4 hi (fun c hc => hC c (by simp [hc])) hDs h6
          exact ⟨x, t', hp', k1, o, ho, hf, k2⟩
        rcases wantedM_cases hAg hr with ⟨h6, h7⟩ | ⟨h6, h7⟩
        · rw [hm'] at h6
          obtain ⟨v, h8, h9⟩ := hok1 e t hp _ r h6
          exact go v h8 (.inr fun φ a w g1 hra g3 => ⟨h7 φ a hra, h9 φ a w g1 (rdA_ops hA hra) g3⟩)
        · exact go undefA h6 (.inl ⟨rfl, h7⟩)
      · cases hr
    · cases hr
end
end Go.Proofs.YtobaebpmdimljaaGreatDoor.Clo
end
section
namespace Go.Proofs.YtobaebpmdimljaaGreatDoor.Clo
open Go.RowKit
set_option linter.unusedVariables false
set_option linter.unusedSimpArgs false
set_option linter.constructorNameAsVariable false
section
variable {φ φ0 : Id → Option Plc} {h h0 : Mem} {nx nx0 : Id} {w w0 w' : World} {sts : List Site} {B : Bse sts} {x : Blk} {ob : Obj} {K : Nat} {r : Id}
theorem get_set_ne (hw : WR φ B h nx w) {q : Id} (hq : h.get q ≠ none) : (h.set nx x).get q = h.get q := by
  have hf := hw.fresh q (.inl hq)
  exact T4.get_set_other x nx q h (hw.len.trans hf.1.symm) (fun e => by subst e; exact hq hw.nx_none.1)
theorem WR.phantom (hw : WR φ B h nx w) (hl : last nx = false) : WR φ B (h.set nx x) (inc nx) w := by
  obtain ⟨hn1, hn2⟩ := hw.nx_none
  have hinc := inc_num nx hl
  have back : ∀ q y, (h.set nx x).get q = some y → q ≠ nx → h.get q = some y := fun q y e hq => T4.get_of_set x nx q h y e hq
  have ne : ∀ q (g : Plc), φ q = some g → q ≠ nx := fun q g e he => by subst he; rw [hn2] at e; cases e
  refine ⟨by rw [inc_len]; exact hw.len, fun q hq => ?_, fun q y g hq hg => hw.blk q y g (back q y hq (ne q g hg)) hg, fun q q' y y' g g' hq hq' hg hg' => hw.inj q q' y y' g g' (back q y hq (ne q g hg)) (back q' y' hq' (ne q' g' hg')) hg hg', hw.lt, fun q y g hq hy hg => hw.base q y g (back q y hq (ne q g hg)) hy hg, hw.bsz, hw.loops⟩
  by_cases hqn : q = nx
  · subst hqn; exact ⟨hw.len, by rw [hinc]; omega⟩
  · have : h.get q ≠ none ∨ φ q ≠ none := by
      rcases hq with hq | hq
      · left
        cases e : (h.set nx x).get q with
        | none => exact absurd e hq
        | some y => rw [back q y e hqn]; simp
      · exact .inr hq
    have hf := hw.fresh q this
    exact ⟨hf.1, by rw [hinc]; omega⟩
theorem Step.phantom (hw : WR φ B h nx w) (hl : last nx = false) (hs : Step φ0 h0 nx0 w0 φ h nx w) : Step φ0 h0 nx0 w0 φ (h.set nx x) (inc nx) w := by
  obtain ⟨hn1, hn2⟩ := hw.nx_none
  have hinc := inc_num nx hl
  refine ⟨hs.more, hs.os, hs.tape, hs.out, hs.size, hs.keep, fun g hg ⟨q, y, k, h1, h2, h3, h4⟩ => hs.back g hg ⟨q, y, k, T4.get_of_set x nx q h y h1 (fun e => by subst e; rw [hn2] at h3; cases h3), h2, h3, h4⟩, fun q y hq hn => ?_, by have := hs.next; omega, hs.old, hs.lk⟩
  obtain ⟨h1, h2⟩ := hs.ghost q y hq hn
  exact ⟨(get_set_ne hw (by rw [h1]; simp)).trans h1, h2⟩
theorem RW.unset (hw : WR φ B h nx w) {ψ : Id → Option Plc} {w1 : World} (hr : RW ψ (h.set nx x) w1) : RW ψ h w1 := ⟨fun q y g hq hg => hr.blk q y g ((get_set_ne hw (by rw [hq]; simp)).trans hq) hg⟩
theorem WR.fill (hw : WR φ B h nx w) (hr : h.get r = some x) (hro : x.ro = false) (hn : φ r = none) (hN : NewW w ob w') (hx : x.says φ K ob) : WR (ext φ r (w.heap.size, K)) B h nx w' := by
  have hm : More φ (ext φ r (w.heap.size, K)) := ext_more _ hn
  have hlt : ∀ q g, φ q = some g → g.1 ≠ w.heap.size := fun q g e => Nat.ne_of_lt (hw.lt q g e)
  refine ⟨hw.len, fun q hq => ?_, fun q y g hq hg => ?_, fun q q' y y' g g' hq hq' hg hg' hgg => ?_, fun q g hg => ?_, fun q y g hq hy hg => ?_, by rw [hN.size]; have := hw.bsz; omega, hw.loops.mono hm (LK.same hN.old)⟩
  · by_cases e : q = r
    · subst e; exact hw.fresh q (.inl (by rw [hr]; simp))
    · refine hw.fresh q ?_
      rcases hq with hq | hq
      · exact .inl hq
      · right; rw [ext_other φ _ e] at hq; exact hq
  · by_cases e : q = r
    · subst e
      rw [hr] at hq
      rw [ext_same] at hg
      cases hq; cases hg
      exact ⟨ob, hN.at', Blk.says_more hm hx⟩
    · rw [ext_other φ _ e] at hg
      obtain ⟨o', h1, h2⟩ := hw.blk q y g hq hg
      exact ⟨o', (hN.old g.1 (hw.lt q g hg)).trans h1, Blk.says_more hm h2⟩
  · by_cases e : q = r
    · subst e
      rw [ext_same] at hg
      cases hg
      by_cases e' : q' = q
      · exact e'.symm
      · rw [ext_other φ _ e'] at hg'
        exact absurd hgg.symm (hlt q' _ hg')
    · rw [ext_other φ _ e] at hg
      by_cases e' : q' = r
      · subst e'
        rw [ext_same] at hg'
        cases hg'
        exact absurd hgg (hlt q _ hg)
      · rw [ext_other φ _ e'] at hg'
        exact hw.inj q q' y y' g g' hq hq' hg hg' hgg
  · rw [hN.size]
    by_cases e : q = r
    · subst e; rw [ext_same] at hg; cases hg; show w.heap.size < _; omega
    · rw [ext_other φ _ e] at hg; have := hw.lt q g hg; omega
  · by_cases e : q = r
    · subst e; rw [ext_same] at hg; cases hg; exact hw.bsz
    · rw [ext_other φ _ e] at hg; exact hw.base q y g hq hy hg
theorem Step.fill {w0' : World} {sts0 : List Site} {B0 : Bse sts0} (hw0 : WR φ0 B0 h0 nx0 w0') (hs : Step φ0 h0 nx0 w0 φ h nx w) (hn : φ r = none) (hnum : num nx0 ≤ num r) (hN : NewW w ob w') : Step φ0 h0 nx0 w0 (ext φ r (w.heap.size, K)) h nx w' := by
  have hne : ∀ q, num q < num nx0 → q ≠ r := fun q hq e => by subst e; omega
  refine ⟨hs.more.trans (ext_more _ hn), hN.os.trans hs.os, hN.tape.trans hs.tape, hN.out.trans hs.out, by rw [hN.size]; have := hs.size; omega, fun g hg ho => (hN.old g (Nat.lt_of_lt_of_le hg hs.size)).trans (hs.keep g hg ho), fun g hg ⟨q, y, k, h1, h2, h3, h4⟩ => ?_, fun q y hq hn' => ?_, hs.next, fun q hl hq => (ext_other φ _ (hne q hq)).trans (hs.old q hl hq), hs.lk.trans (LK.same hN.old)⟩
  · by_cases e : q = r
    · subst e
      rw [ext_same] at h3
      cases h3
      simp only at h4
      have := hs.size
      omega
    · rw [ext_other φ _ e] at h3
      exact hs.back g hg ⟨q, y, k, h1, h2, h3, h4⟩
  · obtain ⟨h1, h2⟩ := hs.ghost q y hq hn'
    have hf := hw0.fresh q (.inl (by rw [hq]; simp))
    exact ⟨h1, (ext_other φ _ (hne q hf.2)).trans h2⟩
end
end Go.Proofs.YtobaebpmdimljaaGreatDoor.Clo
end
section
namespace Go.Proofs.YtobaebpmdimljaaGreatDoor.Clo
open Go.RowKit
set_option linter.unusedVariables false
set_option linter.unusedSimpArgs false
set_option linter.constructorNameAsVariable false
section
variable (P : Program) (G dt n : Nat) (lo : Nat → Bool) (ops : Array Oper) (ms : List Nat) (kindM : Oper → Kd) (t0 : Tr)
def Pend (φ : Id → Option Plc) (nx0 : Id) (val : Nat → AV) (rid : Nat → Option Id) (hp : HP) (C : List Nat) (i : Nat) (o : Oper) : Prop := match kindM o with
  | .pure => FactP P ops o (Ax G dt n ops ms val t0 i) (val i)
  | .still => i ∈ C ∨ FactS P G ops o (Ax G dt n ops ms val t0 i) (val i) hp
  | .make => NotW ops o (Ax G dt n ops ms val t0 i) (val i) ∨ ∃ r x, rid i = some r ∧ hp.m.get r = some x ∧ x.ro = false ∧ φ r = none ∧ num nx0 ≤ num r ∧ MakeAt P G ops o (Ax G dt n ops ms val t0 i) (val i) r x
  | .eff => False
structure RI (φ0 : Id → Option Plc) (hp0 : HP) (w0 : World) (a0 : Act) {yy : Ys} (B : Bse yy.s) (x : Ex) (t' : Tr) (hp' : HP) (pl : List PI) (val : Nat → AV) (rid : Nat → Option Id) (t : Tr) (hp : HP) (D E : Nat) (C : List Nat) (L : Nat → Prop) (a : Act) (w : World) (φ : Id → Option Plc) : Prop where
  tr : Trace P G dt n lo ops ms kindM yy t0 pl val rid t hp x t' hp'
  pb : planB ops ms kindM pl D E C = true
  LD : ∀ i, L i → D.testBit i = true
  EL : ∀ i o, ops[i]? = some o → kindM o = .eff → D.testBit i = true → L i
  cl : Closed ops L
  Dc : ∀ i, D.testBit i = true → subB (ms.getD i 0) D = true
  ns : ∀ i, D.testBit i = true → (ms.getD i 0).testBit i = false
  wh : WH φ B hp w
  st : StH φ0 hp0 w0 φ hp w
  sz : a.tmps.size = n
  df : a.defers = a0.defers
  i3 : ∀ i o d, ops[i]? = some o → L i → o.dst = some d → VR φ (val i) (a.tmps.getD d undef)
  i4 : ∀ d, (∀ i o, ops[i]? = some o → L i → o.dst ≠ some d) → a.tmps.getD d undef = a0.tmps.getD d undef
  tl : ∀ d, d < n → lo d = true → getT (path dt d) t = .u
  t1 : ∀ d j o, ops[j]? = some o → o.dst = some d → D.testBit j = true → d < n ∧ (lo d = false → getT (path dt d) t = val j)
  t2 : ∀ d, d ≤ n → (∀ j o, ops[j]? = some o → D.testBit j = true → o.dst ≠ some d) → getT (path dt d) t = getT (path dt d) t0
  sl : ∀ i o, ops[i]? = some o → D.testBit i = true → ∀ d ∈ reads ops o, ∀ j p, ops[j]? = some p → p.dst = some d → j = i ∨ (ms.getD i 0).testBit j = true ∨ (ms.getD j 0).testBit i = true
  pend : ∀ i o, ops[i]? = some o → D.testBit i = true → ¬ L i → Pend P G dt n ops ms kindM t0 φ hp0.nx val rid hp C i o
  rin : ∀ i j r, rid i = some r → rid j = some r → i = j
  rlt : ∀ i r, rid i = some r → num r < num hp.nx
  rno : ∀ i, D.testBit i = false → rid i = none
end
section
variable {P : Program} {G dt n : Nat} {lo : Nat → Bool} {ops : Array Oper} {ms : List Nat} {kindM : Oper → Kd} {t0 : Tr}
variable {φ0 : Id → Option Plc} {hp0 : HP} {w0 : World} {a0 : Act} {yy : Ys} {B : Bse yy.s} {x : Ex} {t' : Tr} {hp' : HP}
theorem Ax_upd {val : Nat → AV} {i j D : Nat} {v : AV} (hD : D.testBit i = false) (hs : subB (ms.getD j 0) D = true) : Ax G dt n ops ms (upd val i v) t0 j = Ax G dt n ops ms val t0 j := by
  funext y
  cases y with
  | tmp d =>
    simp only [Ax]
    cases hw : Wr ops ms j d with
    | none => rfl
    | some q =>
      have hq := subB_ok hs (wr_some hw).1
      have hne : q ≠ i := fun e => by subst e; rw [hD] at hq; cases hq
      simp only [upd, hne, if_false]
  | _ => rfl
theorem upd_same (val : Nat → AV) (i : Nat) (v : AV) : upd val i v i = v := by simp [upd]
theorem upd_other {val : Nat → AV} {i j : Nat} {v : AV} (h : j ≠ i) : upd val i v j = val j := by simp [upd, h]
theorem getT_putT (hn : n < 4 ^ dt) {t : Tr} {v : AV} {dst : Option Nat} {d : Nat} (hd : d ≤ n) (hdl : ∀ d', dst = some d' → d' < n) (h : dst ≠ some d) : getT (path dt d) (putT dt lo t dst v) = getT (path dt d) t := by
  cases dst with
  | none => rfl
  | some d' =>
    show getT (path dt d) (if lo d' then t else t.set (path dt d') v) = getT (path dt d) t
    split
    · rfl
    · have hp : path dt d ≠ path dt d' := fun e => h (by rw [path_inj dt d d' (by omega) (Nat.lt_trans (hdl d' rfl) hn) e])
      rw [getT_get, T4.get_set_other _ _ _ _ (by rw [path_len, path_len]) hp, ← getT_get]
theorem RI.more (hn : n < 4 ^ dt) (hon : onceB (dstsOf ops) = true) {pl : List PI} {val : Nat → AV} {rid : Nat → Option Id} {t : Tr} {hp : HP} {D E i : Nat} {L : Nat → Prop} {a : Act} {w : World} {φ : Id → Option Plc} {o : Oper}
    (h : RI P G dt n lo ops ms kindM t0 φ0 hp0 w0 a0 B x t' hp' (.run i :: pl) val rid t hp D E [] L a w φ) (ho : ops[i]? = some o) (hk : kindM o ≠ .eff) :
    ∃ val1 rid1 t1 hp1, RI P G dt n lo ops ms kindM t0 φ0 hp0 w0 a0 B x t' hp' pl val1 rid1 t1 hp1 (Nat.lor D (bitOf i)) E [] L a w φ := by
  obtain ⟨o', ho', hdl, htr⟩ := h.tr
  rw [ho] at ho'
  cases ho'
  have hpb := h.pb
  unfold planB at hpb
  simp only [ho, Bool.and_eq_true, Bool.not_eq_true'] at hpb
  obtain ⟨⟨⟨⟨h1, h2⟩, h3⟩, h4⟩, h5⟩ := hpb
  have selfN : (ms.getD i 0).testBit i = false := by
    rw [Bool.eq_false_iff]
    intro hc
    have := subB_ok h2 hc
    rw [h1] at this
    cases this
  have h5' : planB ops ms kindM pl (Nat.lor D (bitOf i)) E [] = true := by
    cases hkk : kindM o <;> first | exact absurd hkk hk | (rw [hkk] at h5; exact h5)
  have hLi : ¬ L i := fun hl => by have := h.LD i hl; rw [h1] at this; cases this
  have mono : ∀ q, subB q D = true → subB q (Nat.lor D (bitOf i)) = true := by
    intro q hq
    have e : q &&& (D ||| bitOf i) = q := by
      apply Nat.eq_of_testBit_eq
      intro b
      rw [Nat.testBit_and, Nat.testBit_or]
      cases hb : q.testBit b with
      | false => rfl
      | true => rw [subB_ok hq hb]; rfl
    show Nat.beq (q &&& (D ||| bitOf i)) q = true
    rw [e, Nat.beq_refl]
  have Dc' : ∀ j, (Nat.lor D (bitOf i)).testBit j = true → subB (ms.getD j 0) (Nat.lor D (bitOf i)) = true := fun j hj => by
    rcases bit_or.1 hj with hj | rfl
    · exact mono _ (h.Dc j hj)
    · exact mono _ h2
  have old : ∀ v j, D.testBit j = true → upd val i v j = val j := fun v j hj => upd_other fun e => by subst e; rw [h1] at hj; cases hj
  have ax : ∀ v j, D.testBit j = true → Ax G dt n ops ms (upd val i v) t0 j = Ax G dt n ops ms val t0 j := fun v j hj => Ax_upd h1 (h.Dc j hj)
  have axi : ∀ v, Ax G dt n ops ms (upd val i v) t0 i = Ax G dt n ops ms val t0 i := fun v => Ax_upd h1 h2
  have mk : ∀ v rid1 hp1, Trace P G dt n lo ops ms kindM yy t0 pl (upd val i v) rid1 (putT dt lo t o.dst v) hp1 x t' hp' → WH φ B hp1 w → StH φ0 hp0 w0 φ hp1 w →
      (∀ j p, ops[j]? = some p → (Nat.lor D (bitOf i)).testBit j = true → ¬ L j → Pend P G dt n ops ms kindM t0 φ hp0.nx (upd val i v) rid1 hp1 [] j p) →
      (∀ i j r, rid1 i = some r → rid1 j = some r → i = j) → (∀ j r, rid1 j = some r → num r < num hp1.nx) → (∀ j, (Nat.lor D (bitOf i)).testBit j = false → rid1 j = none) →
      RI P G dt n lo ops ms kindM t0 φ0 hp0 w0 a0 B x t' hp' pl (upd val i v) rid1 (putT dt lo t o.dst v) hp1 (Nat.lor D (bitOf i)) E [] L a w φ := by
    intro v rid1 hp1 k1 k2 k3 k4 k5 k6 k7
    refine ⟨k1, h5', fun j hj => bit_or.2 (.inl (h.LD j hj)), fun j p hj hkj hb => ?_, h.cl, Dc', fun j hb => ?_, k2, k3, h.sz, h.df, fun j p d hj hl hd => ?_, h.i4, fun d hdn hl => ?_, fun d j p hj hd hb => ?_, fun d hdn hno => ?_, fun j p hj hb d hd q qo hq hqd => ?_, k4, k5, k6, k7⟩
    · rcases bit_or.1 hb with hb | rfl
      · exact h.EL j p hj hkj hb
      · rw [ho] at hj; cases hj; exact absurd hkj hk
    · rcases bit_or.1 hb with hb | rfl
      · exact h.ns j hb
      · exact selfN
    · rw [old v j (h.LD j hl)]; exact h.i3 j p d hj hl hd
    · cases hds : o.dst with
      | none => exact h.tl d hdn hl
      | some d' =>
        show getT (path dt d) (if lo d' then t else t.set (path dt d') v) = .u
        split
        · exact h.tl d hdn hl
        · rename_i hl'
          have hne : (some d' : Option Nat) ≠ some d := fun e => by cases e; exact hl' hl
          have := getT_putT (lo := lo) hn (t := t) (v := v) (Nat.le_of_lt hdn) (fun d'' e => hdl d'' (by rw [hds]; exact e)) hne
          have h' : getT (path dt d) (if lo d' then t else t.set (path dt d') v) = getT (path dt d) t := this
          rw [if_neg hl'] at h'
          rw [h']
          exact h.tl d hdn hl
    · rcases bit_or.1 hb with hb | rfl
      · obtain ⟨q1, q2⟩ := h.t1 d j p hj hd hb
        refine ⟨q1, fun hl => ?_⟩
        have hne : o.dst ≠ some d := fun e => by have := once_ok hon ho hj e hd; subst this; rw [h1] at hb; cases hb
        rw [getT_putT hn (Nat.le_of_lt q1) hdl hne, old v j hb]
        exact q2 hl
      · rw [ho] at hj
        cases hj
        have hdn := hdl d hd
        refine ⟨hdn, fun hl => ?_⟩
        rw [hd, upd_same]
        show getT (path dt d) (if lo d then t else t.set (path dt d) v) = v
        rw [hl]
        simp only [Bool.false_eq_true, if_false]
        rw [getT_get, T4.get_set_same]
        rfl
    · have hne : o.dst ≠ some d := hno i o ho (bit_or.2 (.inr rfl))
      rw [getT_putT hn hdn hdl hne]
      exact h.t2 d hdn fun j p hj hb => hno j p hj (bit_or.2 (.inl hb))
    · rcases bit_or.1 hb with hb | rfl
      · exact h.sl j p hj hb d hd q qo hq hqd
      · rw [ho] at hj
        cases hj
        rcases slotsB_ok h4 hd hq hqd with e | e | ⟨e, _⟩
        · exact .inl e
        · exact .inr (.inl e)
        · exact .inr (.inr e)
  have stay : ∀ v rid1 hp1, (∀ j, D.testBit j = true → rid1 j = rid j) → (∀ r y, hp.m.get r = some y → hp1.m.get r = some y) → (∀ ψ w1, RW ψ hp1.m w1 → RW ψ hp.m w1) → ∀ j p, ops[j]? = some p → D.testBit j = true → ¬ L j → Pend P G dt n ops ms kindM t0 φ hp0.nx (upd val i v) rid1 hp1 [] j p := by
    intro v rid1 hp1 e1 e2 e3 j p hj hb hl
    have hp := h.pend j p hj hb hl
    unfold Pend at hp ⊢
    rw [ax v j hb, old v j hb]
    cases hkj : kindM p with
    | pure => rw [hkj] at hp; exact hp
    | still =>
      rw [hkj] at hp
      rcases hp with hp | hp
      · cases hp
      · right
        rcases hp with hp | hp
        · exact .inl hp
        · exact .inr fun ψ ac w1 g1 g2 g3 => hp ψ ac w1 g1 g2 (e3 ψ w1 g3)
    | make =>
      rw [hkj] at hp
      rcases hp with hp | ⟨r, y, q1, q2, q3⟩
      · exact .inl hp
      · exact .inr ⟨r, y, by rw [e1 j hb]; exact q1, e2 r y q2, q3⟩
    | eff => rw [hkj] at hp; exact hp
  have same : ∀ v, (∀ p, ops[i]? = some p → Pend P G dt n ops ms kindM t0 φ hp0.nx (upd val i v) rid hp [] i p) → Trace P G dt n lo ops ms kindM yy t0 pl (upd val i v) rid (putT dt lo t o.dst v) hp x t' hp' → ∃ val1 rid1 t1 hp1, RI P G dt n lo ops ms kindM t0 φ0 hp0 w0 a0 B x t' hp' pl val1 rid1 t1 hp1 (Nat.lor D (bitOf i)) E [] L a w φ := by
    intro v hpi k1
    refine ⟨_, _, _, _, mk v rid hp k1 h.wh h.st (fun j p hj hb hl => ?_) h.rin h.rlt (fun j hb => h.rno j ?_)⟩
    · rcases bit_or.1 hb with hb | rfl
      · exact stay v rid hp (fun _ _ => rfl) (fun _ _ h => h) (fun _ _ h => h) j p hj hb hl
      · exact hpi p hj
    · rw [Bool.eq_false_iff] at hb ⊢
      exact fun hc => hb (bit_or.2 (.inl hc))
  cases hkk : kindM o with
  | eff => exact absurd hkk hk
  | pure =>
    rw [hkk] at htr
    obtain ⟨v, f1, f2⟩ := htr
    refine same v (fun p hp => ?_) f2
    rw [ho] at hp
    cases hp
    unfold Pend
    rw [hkk, axi v, upd_same]
    exact f1
  | still =>
    rw [hkk] at htr
    obtain ⟨v, f1, f2⟩ := htr
    refine same v (fun p hp => ?_) f2
    rw [ho] at hp
    cases hp
    unfold Pend
    rw [hkk, axi v, upd_same]
    exact .inr f1
  | make =>
    rw [hkk] at htr
    obtain ⟨v, hp1, r0, f1, f2⟩ := htr
    rcases f1 with ⟨f1, e1, e2⟩ | ⟨m, nx, y, e1, hlast, hro, e2, e3, f1⟩
    · subst e1 e2
      refine ⟨_, _, _, _, mk v _ hp1 f2 h.wh h.st (fun j p hj hb hl => ?_) (fun p q r hp hq => ?_) (fun p r hp => ?_) (fun j hb => ?_)⟩
      · rcases bit_or.1 hb with hb | rfl
        · exact stay v _ hp1 (fun q hq => if_neg fun e => by subst e; rw [h1] at hq; cases hq) (fun _ _ h => h) (fun _ _ h => h) j p hj hb hl
        · rw [ho] at hj
          cases hj
          unfold Pend
          rw [hkk, axi v, upd_same]
          exact .inl f1
      · split at hp
        · cases hp
        · split at hq
          · cases hq
          · exact h.rin p q r hp hq
      · split at hp
        · cases hp
        · exact h.rlt p r hp
      · split
        · rfl
        · refine h.rno j ?_
          rw [Bool.eq_false_iff] at hb ⊢
          exact fun hc => hb (bit_or.2 (.inl hc))
    · subst e1 e2 e3
      have hw1 : WR φ B m nx w := h.wh
      have hnx := hw1.nx_none
      refine ⟨_, _, _, _, mk v _ (HP.mk (m.set nx y) (inc nx)) f2 (WR.phantom hw1 hlast) (Step.phantom hw1 hlast h.st) (fun j p hj hb hl => ?_) (fun p q r hp hq => ?_) (fun p r hp => ?_) (fun j hb => ?_)⟩
      · rcases bit_or.1 hb with hb | rfl
        · exact stay v _ (HP.mk (m.set nx y) (inc nx)) (fun q hq => if_neg fun e => by subst e; rw [h1] at hq; cases hq) (fun r z hz => (get_set_ne hw1 (by rw [show m.get r = some z from hz]; simp)).trans hz) (fun ψ w1 hr => RW.unset hw1 hr) j p hj hb hl
        · rw [ho] at hj
          cases hj
          unfold Pend
          rw [hkk, axi v, upd_same]
          exact .inr ⟨nx, y, if_pos rfl, T4.get_set_same y nx m, hro, hnx.2, h.st.next, f1⟩
      · have lt : ∀ p r, rid p = some r → r ≠ nx := fun p' r' hpp e => by have := h.rlt p' r' hpp; rw [e] at this; exact Nat.lt_irrefl _ this
        split at hp
        · rename_i e
          cases hp
          split at hq
          · rename_i e'; rw [e, e']
          · exact absurd rfl (lt q _ hq)
        · split at hq
          · cases hq; exact absurd rfl (lt p _ hp)
          · exact h.rin p q r hp hq
      · show num r < num (inc nx)
        rw [inc_num nx hlast]
        split at hp
        · cases hp; omega
        · have := h.rlt p r hp
          have : num r < num nx := this
          omega
      · split
        · rename_i e
          subst e
          rw [Bool.eq_false_iff] at hb
          exact absurd (bit_or.2 (.inr rfl)) hb
        · refine h.rno j ?_
          rw [Bool.eq_false_iff] at hb ⊢
          exact fun hc => hb (bit_or.2 (.inl hc))
theorem RI.rest (hn : n < 4 ^ dt) (hon : onceB (dstsOf ops) = true) : ∀ {pl : List PI} {val : Nat → AV} {rid : Nat → Option Id} {t : Tr} {hp : HP} {D E : Nat} {C : List Nat} {L : Nat → Prop} {a : Act} {w : World} {φ : Id → Option Plc},
    RI P G dt n lo ops ms kindM t0 φ0 hp0 w0 a0 B x t' hp' pl val rid t hp D E C L a w φ →
    ∃ pl1 val1 rid1 t1 hp1 D1 E1, RI P G dt n lo ops ms kindM t0 φ0 hp0 w0 a0 B x t' hp' pl1 val1 rid1 t1 hp1 D1 E1 [] L a w φ ∧ (pl1 = [] ∨ ∃ i r o, pl1 = .run i :: r ∧ ops[i]? = some o ∧ kindM o = .eff)
  | [], val, rid, t, hp, D, E, [], L, a, w, φ, h => ⟨_, _, _, _, _, _, _, h, .inl rfl⟩
  | [], val, rid, t, hp, D, E, c :: C, L, a, w, φ, h => by have := h.pb; cases this
  | .run i :: pl, val, rid, t, hp, D, E, c :: C, L, a, w, φ, h => by have := h.pb; cases this
  | .run i :: pl, val, rid, t, hp, D, E, [], L, a, w, φ, h => by
    obtain ⟨o, ho, _, _⟩ := h.tr
    by_cases hk : kindM o = .eff
    · exact ⟨_, _, _, _, _, _, _, h, .inr ⟨i, pl, o, rfl, ho, hk⟩⟩
    · obtain ⟨_, _, _, _, h'⟩ := h.more hn hon ho hk
      exact RI.rest hn hon h'
  | .chk i :: pl, val, rid, t, hp, D, E, [], L, a, w, φ, h => by have := h.pb; cases this
  | .chk i :: pl, val, rid, t, hp, D, E, c :: C, L, a, w, φ, h => by
    obtain ⟨o, ho, f1, f2⟩ := h.tr
    have hpb := h.pb
    unfold planB at hpb
    simp only [ho, Bool.and_eq_true] at hpb
    obtain ⟨⟨⟨h1, h2⟩, h3⟩, h4⟩ := hpb
    have h1' : i = c := Nat.eq_of_beq_eq_true h1
    subst h1'
    refine RI.rest hn hon ⟨f2, h4, h.LD, h.EL, h.cl, h.Dc, h.ns, h.wh, h.st, h.sz, h.df, h.i3, h.i4, h.tl, h.t1, h.t2, h.sl, fun j p hj hb hl => ?_, h.rin, h.rlt, h.rno⟩
    have hp := h.pend j p hj hb hl
    unfold Pend at hp ⊢
    cases hkj : kindM p with
    | pure => rw [hkj] at hp; exact hp
    | make => rw [hkj] at hp; exact hp
    | eff => rw [hkj] at hp; exact hp
    | still =>
      rw [hkj] at hp
      rcases hp with hp | hp
      · rcases List.mem_cons.1 hp with rfl | hp
        · rw [ho] at hj
          cases hj
          exact .inr f1
        · exact .inl hp
      · exact .inr hp
theorem RI.rd {t : Tr} {pl : List PI} {val : Nat → AV} {rid : Nat → Option Id} {hp : HP} {D E i : Nat} {C : List Nat} {L : Nat → Prop} {a : Act} {w : World} {φ : Id → Option Plc} {o : Oper} (hms : ∀ i j, (ms.getD i 0).testBit j = true → ∀ S, Closed ops S → S i → S j)
    (hg : Glo G φ0) (hf : ∀ d, d < n → VR φ0 (getT (path dt d) t0) (a0.tmps.getD d undef))
    (h : RI P G dt n lo ops ms kindM t0 φ0 hp0 w0 a0 B x t' hp' pl val rid t hp D E C L a w φ) (ho : ops[i]? = some o) (hL : ¬ L i) (hself : (ms.getD i 0).testBit i = false)
    (hsl : ∀ d ∈ reads ops o, ∀ j p, ops[j]? = some p → p.dst = some d → j = i ∨ (ms.getD i 0).testBit j = true ∨ (ms.getD j 0).testBit i = true) (hrd : ∀ e ∈ o.after, Region.binds .any e = true → L e.on) :
    RdA ops (Ax G dt n ops ms val t0 i) φ a o := by
  have hS : Closed ops (fun j => L j ∨ j = i) := by
    intro j p hj hs e he hb
    rcases hs with hs | rfl
    · exact .inl (h.cl j p hj hs e he hb)
    · rw [ho] at hj; cases hj; exact .inl (hrd e he hb)
  have anc : ∀ j, (ms.getD i 0).testBit j = true → L j ∨ j = i := fun j hj => hms i j hj _ hS (.inr rfl)
  have hmore := h.st.more
  have tmp : ∀ d ∈ reads ops o, VR φ (Ax G dt n ops ms val t0 i (.tmp d)) (a.tmps.getD d undef) := by
    intro d hd
    simp only [Ax]
    have none_case : (∀ j p, ops[j]? = some p → L j → p.dst ≠ some d) → VR φ (if d < n then getT (path dt d) t0 else .u) (a.tmps.getD d undef) := by
      intro hno
      split
      · rename_i hdn
        rw [h.i4 d hno]
        exact (hf d hdn).more hmore
      · exact trivial
    cases hw : Wr ops ms i d with
    | some j =>
      obtain ⟨hm, p, hj, hp⟩ := wr_some hw
      rcases anc j hm with hl | e
      · exact h.i3 j p d hj hl hp
      · subst e; rw [hself] at hm; cases hm
    | none =>
      refine none_case fun j p hj hl hp => ?_
      rcases hsl d hd j p hj hp with e | e | e
      · subst e; exact hL hl
      · exact wr_none hw hj e hp
      · exact hL (hms j i e L h.cl hl)
  refine ⟨fun y hy => ?_, fun d hd => tmp d (by simp [reads, hd])⟩
  cases y with
  | tmp d => exact tmp d (by simp only [reads, List.mem_append, List.mem_filterMap]; exact .inr ⟨_, Array.mem_toList_iff.2 hy, rfl⟩)
  | const v => exact ofConst_ok φ v
  | func f => exact ⟨#[], #[], rfl, rfl, rfl⟩
  | _ =>
    rename_i g
    by_cases hgG : g < G
    · obtain ⟨K, e⟩ := hg g hgG
      have : VR φ0 ((opd G dt n [] (.global g)).run [] t0) (.pointer (some ⟨g, 0, none⟩)) := by
        have h1 : opd G dt n [] (.global g) = .mk fun _ _ => .p (path DB g) 0 := by simp only [opd, hgG, if_true]
        rw [h1]
        exact ⟨(g, K), e, rfl⟩
      exact VR.more this hmore
    · have h1 : opd G dt n [] (.global g) = .mk fun _ _ => .u := by simp only [opd, hgG, if_false]
      simp only [Ax, h1]
      exact trivial
end
end Go.Proofs.YtobaebpmdimljaaGreatDoor.Clo
end
