import Derived.Test.YtnfokaecobddkaaGreatDoorZ07
set_option linter.all false
section
/- The closed run: regions that draw their order: the end. -/
namespace Go.Proofs.YtnfokaecobddkaaGreatDoor.Clo
open Go.RowKit
set_option linter.unusedVariables false
set_option linter.unusedSimpArgs false
set_option linter.constructorNameAsVariable false
theorem filter_lt {p q : Nat → Bool} (hpq : ∀ j, q j = true → p j = true) {i : Nat} (h1 : p i = true) (h2 : q i = false) : ∀ {l : List Nat}, (l.filter q).length ≤ (l.filter p).length ∧ (i ∈ l → (l.filter q).length < (l.filter p).length)
  | [] => ⟨Nat.le_refl _, fun h => by cases h⟩
  | y :: l => by
    obtain ⟨a, b⟩ := filter_lt hpq h1 h2 (l := l)
    simp only [List.filter_cons]
    cases hy : q y with
    | true =>
      rw [hpq y hy]
      simp only [if_true, List.length_cons]
      refine ⟨by omega, fun hm => ?_⟩
      rcases List.mem_cons.1 hm with rfl | hm
      · rw [h2] at hy; cases hy
      · have := b hm; omega
    | false =>
      cases hp : p y with
      | true =>
        simp only [if_true, Bool.false_eq_true, if_false, List.length_cons]
        exact ⟨by omega, fun _ => by omega⟩
      | false =>
        simp only [Bool.false_eq_true, if_false]
        refine ⟨a, fun hm => ?_⟩
        rcases List.mem_cons.1 hm with rfl | hm
        · rw [h1] at hp; cases hp
        · exact b hm
/-- listed -/
def LA (l : Array Bool) : Nat → Prop := fun i => l.getD i false = true
def un (m : Nat) (l : Array Bool) : Nat := ((List.range m).filter fun i => !l.getD i false).length
theorem la_set {l : Array Bool} {i j : Nat} (hi : i < l.size) : LA (l.setIfInBounds i true) j ↔ LA l j ∨ j = i := by
  unfold LA
  simp only [Array.getD_eq_getD_getElem?, Array.getElem?_setIfInBounds]
  by_cases h : i = j
  · subst h; simp [hi]
  · simp [h, Ne.symm h]
theorem un_set {m : Nat} {l : Array Bool} {i : Nat} (hm : l.size = m) (hi : i < m) (hl : ¬ LA l i) : un m (l.setIfInBounds i true) < un m l := by
  unfold un
  refine (filter_lt (i := i) (fun j hj => ?_) ?_ ?_ (l := List.range m)).2 (List.mem_range.2 hi)
  · simp only [Bool.not_eq_true'] at hj ⊢
    rw [Bool.eq_false_iff] at hj ⊢
    exact fun hc => hj ((la_set (by omega)).2 (.inl hc))
  · simp only [Bool.not_eq_true']
    rw [Bool.eq_false_iff]
    exact hl
  · simp only [Bool.not_eq_false']
    exact (la_set (by omega)).2 (.inr rfl)
theorem ready_iff {ops : Array Oper} {l : Array Bool} (hls : l.size = ops.size) {i : Nat} : i ∈ Region.ready .any ops l ↔ ∃ o, ops[i]? = some o ∧ ¬ LA l i ∧ ∀ e ∈ o.after, Region.binds .any e = true → LA l e.on := by
  unfold Region.ready LA
  rw [List.mem_filter, List.mem_range]
  constructor
  · rintro ⟨h1, h2⟩
    rw [Bool.and_eq_true] at h2
    obtain ⟨h2, h3⟩ := h2
    have ho : ops[i]? = some ops[i] := Array.getElem?_eq_getElem h1
    rw [ho] at h3
    refine ⟨ops[i], ho, ?_, fun e he hb => ?_⟩
    · have hil : i < l.size := by omega
      simpa [Array.getD_eq_getD_getElem?, Array.getElem?_eq_getElem hil] using h2
    · have := Array.all_eq_true_iff_forall_mem.1 (show (ops[i].after.all _) = true from h3) e he
      simpa [hb] using this
  · rintro ⟨o, ho, h2, h3⟩
    refine ⟨(Array.getElem?_eq_some_iff.1 ho).1, ?_⟩
    rw [Bool.and_eq_true]
    have hil : i < l.size := by have := (Array.getElem?_eq_some_iff.1 ho).1; omega
    refine ⟨by simpa [Array.getD_eq_getD_getElem?, Array.getElem?_eq_getElem hil] using h2, ?_⟩
    rw [ho]
    show (o.after.all _) = true
    refine Array.all_eq_true_iff_forall_mem.2 fun e he => ?_
    cases hb : Region.binds .any e with
    | false => rfl
    | true => simpa using h3 e he hb
section
variable {P : Program} {G dt n : Nat} {lo : Nat → Bool} {ops : Array Oper} {ms : List Nat} {kindM : Oper → Kd} {t0 : Tr}
variable {φ0 : Id → Option Plc} {hp0 : HP} {w0 : World} {a0 : Act} {B : Nat} {x : Ex} {t' : Tr} {hp' : HP}
theorem wipe_get (hn : n < 4 ^ dt) : ∀ {l : List Oper} {t : Tr} {d : Nat}, d ≤ n → (∀ d', d' < n → lo d' = true → getT (path dt d') t = .u) → getT (path dt d) (wipe dt n lo l t) = .u ∨ (getT (path dt d) (wipe dt n lo l t) = getT (path dt d) t ∧ ∀ o ∈ l, o.dst = some d → d < n → lo d = true)
  | [], t, d, _, _ => .inr ⟨rfl, fun o h => by cases h⟩
  | o :: l, t, d, hd, hl => by
    have step : ∀ t1, (∀ d', d' < n → lo d' = true → getT (path dt d') t1 = .u) → (getT (path dt d) t1 = .u ∨ (getT (path dt d) t1 = getT (path dt d) t ∧ (o.dst = some d → d < n → lo d = true))) → wipe dt n lo (o :: l) t = wipe dt n lo l t1 →
        getT (path dt d) (wipe dt n lo (o :: l) t) = .u ∨ (getT (path dt d) (wipe dt n lo (o :: l) t) = getT (path dt d) t ∧ ∀ p ∈ o :: l, p.dst = some d → d < n → lo d = true) := by
      intro t1 h1 h2 e
      rw [e]
      rcases wipe_get hn (l := l) (t := t1) hd h1 with h3 | ⟨h3, h4⟩
      · exact .inl h3
      · rcases h2 with h2 | ⟨h2, h5⟩
        · exact .inl (h3.trans h2)
        · refine .inr ⟨h3.trans h2, fun p hp hpd hdn => ?_⟩
          rcases List.mem_cons.1 hp with rfl | hp
          · exact h5 hpd hdn
          · exact h4 p hp hpd hdn
    cases hds : o.dst with
    | none => exact step t hl (.inr ⟨rfl, fun e => by rw [hds] at e; cases e⟩) (by simp only [wipe, hds])
    | some d' =>
      by_cases hlo : lo d' = true
      · exact step t hl (.inr ⟨rfl, fun e _ => by rw [hds] at e; cases e; exact hlo⟩) (by simp only [wipe, hds, hlo, if_true])
      · by_cases hdn : d' < n
        · refine step (t.set (path dt d') .u) (fun q hq hlq => ?_) ?_ (by simp only [wipe, hds, hlo, hdn, if_true, if_false, Bool.false_eq_true])
          · by_cases e : q = d'
            · subst e; exact absurd hlq hlo
            · have hp : path dt q ≠ path dt d' := fun e' => e (path_inj dt q d' (Nat.lt_trans hq hn) (Nat.lt_trans hdn hn) e')
              rw [getT_get, T4.get_set_other _ _ _ _ (by rw [path_len, path_len]) hp, ← getT_get]
              exact hl q hq hlq
          · by_cases e : d = d'
            · subst e
              left
              rw [getT_get, T4.get_set_same]
              rfl
            · right
              have hp : path dt d ≠ path dt d' := fun e' => e (path_inj dt d d' (by omega) (Nat.lt_trans hdn hn) e')
              refine ⟨by rw [getT_get, T4.get_set_other _ _ _ _ (by rw [path_len, path_len]) hp, ← getT_get], fun h => by rw [hds] at h; cases h; exact absurd rfl e⟩
        · exact step t hl (.inr ⟨rfl, fun e h => by rw [hds] at e; cases e; exact absurd h hdn⟩) (by simp only [wipe, hds, hlo, hdn, if_false, Bool.false_eq_true])
theorem wipe_n (hn : n < 4 ^ dt) : ∀ {l : List Oper} {t : Tr}, getT (path dt n) (wipe dt n lo l t) = getT (path dt n) t
  | [], t => rfl
  | o :: l, t => by
    have step : ∀ t1, getT (path dt n) t1 = getT (path dt n) t → wipe dt n lo (o :: l) t = wipe dt n lo l t1 → getT (path dt n) (wipe dt n lo (o :: l) t) = getT (path dt n) t := fun t1 h1 e => by rw [e, wipe_n hn, h1]
    cases hds : o.dst with
    | none => exact step t rfl (by simp only [wipe, hds])
    | some d' =>
      by_cases hlo : lo d' = true
      · exact step t rfl (by simp only [wipe, hds, hlo, if_true])
      · by_cases hdn : d' < n
        · refine step (t.set (path dt d') .u) ?_ (by simp only [wipe, hds, hlo, hdn, if_true, if_false, Bool.false_eq_true])
          have hp : path dt n ≠ path dt d' := fun e' => Nat.ne_of_gt hdn (path_inj dt n d' hn (Nat.lt_trans hdn hn) e')
          rw [getT_get, T4.get_set_other _ _ _ _ (by rw [path_len, path_len]) hp, ← getT_get]
        · exact step t rfl (by simp only [wipe, hds, hlo, hdn, if_false, Bool.false_eq_true])
/-- the frame, when one that was had has come -/
theorem put_frame (hon : onceB (dstsOf ops) = true) {val : Nat → AV} {L : Nat → Prop} {a : Act} {φ : Id → Option Plc} {i : Nat} {o : Oper} (ho : ops[i]? = some o) (hL : ¬ L i) (hdl : ∀ d, o.dst = some d → d < a.tmps.size) {v' : Value}
    (i3 : ∀ i o d, ops[i]? = some o → L i → o.dst = some d → VR φ (val i) (a.tmps.getD d undef)) (i4 : ∀ d, (∀ i o, ops[i]? = some o → L i → o.dst ≠ some d) → a.tmps.getD d undef = a0.tmps.getD d undef) (hv : VR φ (val i) v') :
    (∀ j p d, ops[j]? = some p → (L j ∨ j = i) → p.dst = some d → VR φ (val j) ((a.put o.dst v').tmps.getD d undef)) ∧ (∀ d, (∀ j p, ops[j]? = some p → (L j ∨ j = i) → p.dst ≠ some d) → (a.put o.dst v').tmps.getD d undef = a0.tmps.getD d undef) ∧ (a.put o.dst v').tmps.size = a.tmps.size ∧ (a.put o.dst v').defers = a.defers := by
  refine ⟨fun j p d hj hl hd => ?_, fun d hno => ?_, by cases o.dst <;> simp [Act.put], by cases o.dst <;> rfl⟩
  · rcases hl with hl | rfl
    · have hne : o.dst ≠ some d := fun e => hL (by have := once_ok hon ho hj e hd; rw [this]; exact hl)
      cases hds : o.dst with
      | none => exact i3 j p d hj hl hd
      | some d' => rw [getD_put_other (fun e => hne (by rw [hds, e]))]; exact i3 j p d hj hl hd
    · rw [ho] at hj
      cases hj
      rw [hd, getD_put_same (hdl d hd)]
      exact hv
  · have hne : o.dst ≠ some d := hno i o ho (.inr rfl)
    have := i4 d fun j p hj hl => hno j p hj (.inl hl)
    cases hds : o.dst with
    | none => exact this
    | some d' => rw [getD_put_other (fun e => hne (by rw [hds, e]))]; exact this
theorem RI.come (hon : onceB (dstsOf ops) = true) {pl : List PI} {val : Nat → AV} {rid : Nat → Option Id} {t : Tr} {hp : HP} {D E i : Nat} {L : Nat → Prop} {a : Act} {w w1 : World} {φ φ1 : Id → Option Plc} {o : Oper} {v' : Value}
    (h : RI P G dt n lo ops ms kindM t0 φ0 hp0 w0 a0 B x t' hp' pl val rid t hp D E [] L a w φ) (ho : ops[i]? = some o) (hD : D.testBit i = true) (hL : ¬ L i) (hrd : ∀ e ∈ o.after, Region.binds .any e = true → L e.on)
    (hw : WH φ1 B hp w1) (hs : StH φ0 hp0 w0 φ1 hp w1) (hm : More φ φ1) (hv : VR φ1 (val i) v')
    (hpd : ∀ j p, ops[j]? = some p → D.testBit j = true → ¬ L j → j ≠ i → Pend P G dt n ops ms kindM t0 φ1 hp0.nx val rid hp [] j p) :
    RI P G dt n lo ops ms kindM t0 φ0 hp0 w0 a0 B x t' hp' pl val rid t hp D E [] (fun j => L j ∨ j = i) (a.put o.dst v') w1 φ1 := by
  obtain ⟨f1, f2, f3, f4⟩ := put_frame (a0 := a0) hon ho hL (fun d hd => by rw [h.sz]; exact (h.t1 d i o ho hd hD).1) (fun j p d hj hl hd => (h.i3 j p d hj hl hd).more hm) h.i4 hv
  refine ⟨h.tr, h.pb, fun j hj => ?_, fun j p hj hk hb => .inl (h.EL j p hj hk hb), fun j p hj hs e he hb => ?_, h.Dc, h.ns, hw, hs, f3.trans h.sz, f4.trans h.df, f1, f2, h.tl, h.t1, h.t2, h.sl, fun j p hj hb hl => hpd j p hj hb (fun hc => hl (.inl hc)) (fun hc => hl (.inr hc)), h.rin, h.rlt, h.rno⟩
  · rcases hj with hj | rfl
    · exact h.LD j hj
    · exact hD
  · rcases hs with hs | rfl
    · exact .inl (h.cl j p hj hs e he hb)
    · rw [ho] at hj; cases hj; exact .inl (hrd e he hb)
theorem RI.set {pl : List PI} {val : Nat → AV} {rid : Nat → Option Id} {t : Tr} {hp : HP} {D E : Nat} {C : List Nat} {L L' : Nat → Prop} {a : Act} {w : World} {φ : Id → Option Plc} (hl : ∀ j, L j ↔ L' j)
    (h : RI P G dt n lo ops ms kindM t0 φ0 hp0 w0 a0 B x t' hp' pl val rid t hp D E C L a w φ) : RI P G dt n lo ops ms kindM t0 φ0 hp0 w0 a0 B x t' hp' pl val rid t hp D E C L' a w φ := by
  have : L = L' := funext fun j => propext (hl j)
  subst this
  exact h
end
end Go.Proofs.YtnfokaecobddkaaGreatDoor.Clo
end
section
/- The closed run: regions that draw their order are told rightly. -/
namespace Go.Proofs.YtnfokaecobddkaaGreatDoor.Clo
open Go.RowKit
set_option linter.unusedVariables false
set_option linter.unusedSimpArgs false
set_option linter.constructorNameAsVariable false
section
variable {P : Program} {G dt n : Nat} {lo : Nat → Bool} {ops : Array Oper} {ms : List Nat} {kindM : Oper → Kd} {t0 : Tr}
variable {φ0 : Id → Option Plc} {hp0 : HP} {w0 : World} {a0 : Act} {B : Nat} {x : Ex} {t' : Tr} {hp' : HP} {Q : Exit → Act → World → Prop}
theorem wpOp_of {i : Nat} {K : Act → World → Prop} {a : Act} {w : World} {o : Oper} (ho : ops[i]? = some o) (h : if Region.wanted o (yielded ops a.tmps) = true then o.wp P a w K Q else K (a.put o.dst undef) w) : wpOp P ops Q i K a w := by
  unfold wpOp
  simp only [ho]
  split
  · rename_i hw; rw [if_pos hw] at h; exact .inl h
  · rename_i hw; rw [if_neg hw] at h; exact h
/-- whatever order comes -/
theorem any_order (hn : n < 4 ^ dt) (hon : onceB (dstsOf ops) = true) (hbk : backB ops.toList 0 = true) (hms : ∀ i j, (ms.getD i 0).testBit j = true → ∀ S, Closed ops S → S i → S j)
    (hg : Glo G φ0) (hf : FR φ0 dt n lo t0 a0) (hw0 : WH φ0 B hp0 w0)
    (hQ : ∀ ψ a' w' x', ExR ψ x x' → FR ψ dt n lo t' a' → StH φ0 hp0 w0 ψ hp' w' → WH ψ B hp' w' → Q x' a' w') :
    ∀ (fuel : Nat) (l : Array Bool) (pl : List PI) (val : Nat → AV) (rid : Nat → Option Id) (t : Tr) (hp : HP) (D E : Nat) (a : Act) (w : World) (φ : Id → Option Plc), l.size = ops.size → un ops.size l ≤ fuel →
      RI P G dt n lo ops ms kindM t0 φ0 hp0 w0 a0 B x t' hp' pl val rid t hp D E [] (LA l) a w φ → (pl = [] ∨ ∃ i r o, pl = .run i :: r ∧ ops[i]? = some o ∧ kindM o = .eff) →
      wpAny P .any ops Q fuel l a w := by
  -- nothing is left
  have done : ∀ (l : Array Bool) (pl : List PI) (val : Nat → AV) (rid : Nat → Option Id) (t : Tr) (hp : HP) (D E : Nat) (a : Act) (w : World) (φ : Id → Option Plc), l.size = ops.size →
      RI P G dt n lo ops ms kindM t0 φ0 hp0 w0 a0 B x t' hp' pl val rid t hp D E [] (LA l) a w φ → (pl = [] ∨ ∃ i r o, pl = .run i :: r ∧ ops[i]? = some o ∧ kindM o = .eff) →
      Region.ready .any ops l = [] → Q .normal a w := by
    intro l pl val rid t hp D E a w φ hls h hpl hrd
    have all : ∀ m i, i < m → i < ops.size → LA l i := by
      intro m
      induction m with
      | zero => intro i hi; omega
      | succ m ih =>
        intro i hi his
        by_cases hl : LA l i
        · exact hl
        · exfalso
          have ho : ops[i]? = some ops[i] := Array.getElem?_eq_getElem his
          have : i ∈ Region.ready .any ops l := (ready_iff hls).2 ⟨_, ho, hl, fun e he hb => by
            have := back_ok hbk ho he hb
            exact ih e.on (by omega) (by omega)⟩
          rw [hrd] at this
          cases this
    have hpl' : pl = [] := by
      rcases hpl with e | ⟨i, r, o, e, ho, hk⟩
      · exact e
      · exfalso
        subst e
        have his := (Array.getElem?_eq_some_iff.1 ho).1
        have hD := h.LD i (all _ i (Nat.lt_succ_self i) his)
        have hpb := h.pb
        unfold planB at hpb
        simp only [ho, Bool.and_eq_true, Bool.not_eq_true'] at hpb
        rw [hD] at hpb
        exact absurd hpb.1.1.1.1 (by simp)
    subst hpl'
    obtain ⟨e1, e2, e3⟩ := h.tr
    subst e1 e2 e3
    refine hQ φ a w .normal rfl ⟨h.sz, hn, fun d hd => ?_, h.tl, ?_⟩ h.st h.wh
    · by_cases hex : ∃ (j : Nat) (o : Oper), ops[j]? = some o ∧ o.dst = some d
      · obtain ⟨j, o, hj, hd'⟩ := hex
        have his := (Array.getElem?_eq_some_iff.1 hj).1
        have hl := all _ j (Nat.lt_succ_self j) his
        cases hlo : lo d with
        | true => rw [h.tl d hd hlo]; exact trivial
        | false => rw [(h.t1 d j o hj hd' (h.LD j hl)).2 hlo]; exact h.i3 j o d hj hl hd'
      · have hno : ∀ (j : Nat) (o : Oper), ops[j]? = some o → o.dst ≠ some d := fun j o hj hd' => hex ⟨j, o, hj, hd'⟩
        rw [h.t2 d (Nat.le_of_lt hd) (fun j p hj _ => hno j p hj), h.i4 d (fun j p hj _ => hno j p hj)]
        exact (hf.at' d hd).more h.st.more
    · rw [h.t2 n (Nat.le_refl n) fun j p hj hb hd => absurd (h.t1 n j p hj hd hb).1 (Nat.lt_irrefl n), h.df]
      exact hf.df.more h.st.more
  intro fuel
  induction fuel with
  | zero =>
    intro l pl val rid t hp D E a w φ hls hun h hpl
    have hrd : Region.ready .any ops l = [] := by
      rw [List.eq_nil_iff_forall_not_mem]
      intro i hi
      obtain ⟨o, ho, hl, _⟩ := (ready_iff hls).1 hi
      have := un_set (m := ops.size) hls (Array.getElem?_eq_some_iff.1 ho).1 hl
      omega
    exact ⟨hrd, done l pl val rid t hp D E a w φ hls h hpl hrd⟩
  | succ fuel ih =>
    intro l pl val rid t hp D E a w φ hls hun h hpl
    refine ⟨done l pl val rid t hp D E a w φ hls h hpl, fun i hi => ?_⟩
    obtain ⟨o, ho, hl, hrd⟩ := (ready_iff hls).1 hi
    have his := (Array.getElem?_eq_some_iff.1 ho).1
    have hun' := un_set (m := ops.size) hls his hl
    have hset : ∀ j, (LA l j ∨ j = i) ↔ LA (l.setIfInBounds i true) j := fun j => (la_set (by omega)).symm
    have hls' : (l.setIfInBounds i true).size = ops.size := by simp [hls]
    have again : ∀ pl1 val1 rid1 t1 hp1 D1 E1 C1 a1 w1 φ1, RI P G dt n lo ops ms kindM t0 φ0 hp0 w0 a0 B x t' hp' pl1 val1 rid1 t1 hp1 D1 E1 C1 (fun j => LA l j ∨ j = i) a1 w1 φ1 → wpAny P .any ops Q fuel (l.setIfInBounds i true) a1 w1 := by
      intro pl1 val1 rid1 t1 hp1 D1 E1 C1 a1 w1 φ1 h1
      obtain ⟨_, _, _, _, _, _, _, h2, h3⟩ := RI.rest hn hon (RI.set hset h1)
      exact ih _ _ _ _ _ _ _ _ _ _ _ hls' (by omega) h2 h3
    have hanc : ∀ j, (ms.getD i 0).testBit j = true → LA l j ∨ j = i := fun j hj => hms i j hj (fun q => LA l q ∨ q = i) (fun q p hq hs e he hb => by
      rcases hs with hs | hs
      · exact .inl (h.cl q p hq hs e he hb)
      · rw [hs, ho] at hq; cases hq; exact .inl (hrd e he hb)) (.inr rfl)
    have hgφ : Glo G φ := hg.more h.st.more
    cases hD : D.testBit i with
    | true =>
      have hra := RI.rd hms hg hf.at' h ho hl (h.ns i hD) (fun d hd j p hj hp => h.sl i o ho hD d hd j p hj hp) hrd
      have hpe := h.pend i o ho hD hl
      -- others' facts, where nothing comes to be
      have others : ∀ j p, ops[j]? = some p → D.testBit j = true → ¬ LA l j → j ≠ i → Pend P G dt n ops ms kindM t0 φ hp0.nx val rid hp [] j p := fun j p hj hb hlj _ => h.pend j p hj hb hlj
      have not_wanted : NotW ops o (Ax G dt n ops ms val t0 i) (val i) → wpOp P ops Q i (wpAny P .any ops Q fuel (l.setIfInBounds i true)) a w := fun hnw => wpOp_of ho (by
        rw [if_neg (show ¬ (Region.wanted o (yielded ops a.tmps) = true) from hnw.2 φ a hra)]
        exact again _ _ _ _ _ _ _ _ _ _ _ (h.come hon ho hD hl hrd h.wh h.st (.refl _) (by rw [hnw.1]; exact undefA_ok φ) others))
      have value : ∀ v', Wtd ops o a → (execOp a.eval o).run P w = .ok (.value v') w → VR φ (val i) v' → wpOp P ops Q i (wpAny P .any ops Q fuel (l.setIfInBounds i true)) a w := fun v' hw hrun hv => wpOp_of ho (by
        rw [if_pos (show Region.wanted o (yielded ops a.tmps) = true from hw)]
        unfold Oper.wp
        rw [hrun]
        exact again _ _ _ _ _ _ _ _ _ _ _ (h.come hon ho hD hl hrd h.wh h.st (.refl _) hv others))
      unfold Pend at hpe
      cases hk : kindM o with
      | pure =>
        rw [hk] at hpe
        rcases hpe with hpe | hpe
        · exact not_wanted hpe
        · obtain ⟨hw, v', hrun, hv⟩ := hpe φ a w hra
          exact value v' hw hrun hv
      | still =>
        rw [hk] at hpe
        rcases hpe with hpe | hpe
        · cases hpe
        · rcases hpe with hpe | hpe
          · exact not_wanted hpe
          · obtain ⟨hw, v', hrun, hv⟩ := hpe φ a w hgφ hra (WR.rw h.wh)
            exact value v' hw hrun hv
      | make =>
        rw [hk] at hpe
        rcases hpe with hpe | ⟨r, y, q1, q2, q3, q4, q5, hpe⟩
        · exact not_wanted hpe
        · obtain ⟨hw, v', ob, K, w', hrun, hN, hsay, hv⟩ := hpe φ a w hgφ hra
          have hwh : WR φ B _ _ w := h.wh
          have hw' := WR.fill hwh q2 q3 q4 hN hsay
          have hs' := Step.fill (K := K) hw0 h.st q4 q5 hN
          have hm := ext_more (w.heap.size, K) q4
          refine wpOp_of ho ?_
          rw [if_pos (show Region.wanted o (yielded ops a.tmps) = true from hw)]
          unfold Oper.wp
          rw [hrun]
          refine again _ _ _ _ _ _ _ _ _ _ _ (h.come hon ho hD hl hrd hw' hs' hm (hv _ hm (ext_same φ r _)) fun j p hj hb hlj hji => ?_)
          have hpj := h.pend j p hj hb hlj
          unfold Pend at hpj ⊢
          cases hkj : kindM p with
          | pure => rw [hkj] at hpj; exact hpj
          | still => rw [hkj] at hpj; exact hpj
          | eff => rw [hkj] at hpj; exact hpj
          | make =>
            rw [hkj] at hpj
            rcases hpj with hpj | ⟨r', y', s1, s2, s3, s4, s5, hpj⟩
            · exact .inl hpj
            · exact .inr ⟨r', y', s1, s2, s3, (ext_other φ _ (fun e => hji (by subst e; exact h.rin j i r' s1 q1))).trans s4, s5, hpj⟩
      | eff => rw [hk] at hpe; exact hpe.elim
    | false =>
      -- it is the next that may do anything
      rcases hpl with e | ⟨i0, pl1, o0, e, ho0, hk0⟩
      · subst e
        have := h.pb
        have := List.all_eq_true.1 (show ((List.range ops.size).all fun j => D.testBit j) = true from this) i (List.mem_range.2 his)
        rw [hD] at this
        cases this
      · subst e
        have hpb := h.pb
        unfold planB at hpb
        simp only [ho0, Bool.and_eq_true, Bool.not_eq_true'] at hpb
        obtain ⟨⟨⟨⟨h1, h2⟩, h3⟩, h4⟩, h5⟩ := hpb
        have h5' : planB ops ms kindM pl1 (Nat.lor D (bitOf i0)) (Nat.lor E (bitOf i0)) (due ms kindM i0 D ops.toList 0) = true := by rw [hk0] at h5; exact h5
        have hii : i = i0 := by
          by_cases e : i = i0
          · exact e
          · exfalso
            have hD' : (Nat.lor D (bitOf i0)).testBit i = false := by
              rw [Bool.eq_false_iff]
              intro hc
              rcases bit_or.1 hc with hc | hc
              · rw [hD] at hc; cases hc
              · exact e hc
            have := planB_later h5' his hD' i0 (bit_or.2 (.inr rfl))
            rcases hanc i0 this with hl0 | hl0
            · have := h.LD i0 hl0
              rw [h1] at this
              cases this
            · exact e hl0.symm
        subst hii
        rw [ho] at ho0
        cases ho0
        have selfN : (ms.getD i 0).testBit i = false := by
          rw [Bool.eq_false_iff]
          intro hc
          have := subB_ok h2 hc
          rw [h1] at this
          cases this
        have hsl : ∀ d ∈ reads ops o, ∀ j p, ops[j]? = some p → p.dst = some d → j = i ∨ (ms.getD i 0).testBit j = true ∨ (ms.getD j 0).testBit i = true := fun d hd j p hj hp => by
          rcases slotsB_ok h4 hd hj hp with e | e | ⟨e, _⟩
          · exact .inl e
          · exact .inr (.inl e)
          · exact .inr (.inr e)
        have hra := RI.rd hms hg hf.at' h ho hl selfN hsl hrd
        obtain ⟨o', ho', hdl, htr⟩ := h.tr
        rw [ho] at ho'
        cases ho'
        rw [hk0] at htr
        rcases htr with ⟨v, hp1, f1, f2⟩ | ⟨v, hp1, f1, e1, e2, e3⟩
        · refine wpOp_of ho (f1 φ B a w hgφ hra h.wh _ _ fun v' w' ⟨ψ, hv, hs, hw'⟩ => ?_)
          have mono : ∀ q, subB q D = true → subB q (Nat.lor D (bitOf i)) = true := by
            intro q hq
            have e : q &&& (D ||| bitOf i) = q := by
              apply Nat.eq_of_testBit_eq
              intro b
              rw [Nat.testBit_and, Nat.testBit_or]
              cases hb : q.testBit b with
              | false => rfl
              | true => rw [subB_ok hq hb]; rfl
            show Nat.beq (q &&& (D ||| bitOf i)) q = true
            rw [e, Nat.beq_refl]
          have old : ∀ j, D.testBit j = true → upd val i v j = val j := fun j hj => upd_other fun e => by subst e; rw [h1] at hj; cases hj
          have ax : ∀ j, D.testBit j = true → Ax G dt n ops ms (upd val i v) t0 j = Ax G dt n ops ms val t0 j := fun j hj => Ax_upd h1 (h.Dc j hj)
          obtain ⟨g1, g2, g3, g4⟩ := put_frame (val := upd val i v) (a0 := a0) (φ := ψ) hon ho hl (fun d hd => by rw [h.sz]; exact hdl d hd) (fun j p d hj hlj hd => by rw [old j (h.LD j hlj)]; exact (h.i3 j p d hj hlj hd).more hs.more) h.i4 (v' := v') (by rw [upd_same]; exact hv)
          refine again pl1 (upd val i v) rid (putT dt lo t o.dst v) hp1 (Nat.lor D (bitOf i)) (Nat.lor E (bitOf i)) (due ms kindM i D ops.toList 0) _ w' ψ
            ⟨f2, h5', fun j hj => ?_, fun j p hj hkj hb => ?_, fun j p hj hs' e he hb => ?_, fun j hb => ?_, fun j hb => ?_, hw', h.st.trans hs, g3.trans h.sz, g4.trans h.df, g1, g2, fun d hdn hlo => ?_, fun d j p hj hd hb => ?_, fun d hdn hno => ?_, fun j p hj hb d hd q qo hq hqd => ?_, fun j p hj hb hlj => ?_, h.rin, fun j r hr => ?_, fun j hb => ?_⟩
          · rcases hj with hj | rfl
            · exact bit_or.2 (.inl (h.LD j hj))
            · exact bit_or.2 (.inr rfl)
          · rcases bit_or.1 hb with hb | rfl
            · exact .inl (h.EL j p hj hkj hb)
            · exact .inr rfl
          · rcases hs' with hs' | rfl
            · exact .inl (h.cl j p hj hs' e he hb)
            · rw [ho] at hj; cases hj; exact .inl (hrd e he hb)
          · rcases bit_or.1 hb with hb | rfl
            · exact mono _ (h.Dc j hb)
            · exact mono _ h2
          · rcases bit_or.1 hb with hb | rfl
            · exact h.ns j hb
            · exact selfN
          · cases hds : o.dst with
            | none => exact h.tl d hdn hlo
            | some d' =>
              have hne : lo d' = true ∨ (some d' : Option Nat) ≠ some d := by
                cases hl' : lo d' with
                | true => exact .inl rfl
                | false => exact .inr fun e => by cases e; rw [hlo] at hl'; cases hl'
              rcases hne with hl' | hne
              · show getT (path dt d) (if lo d' then t else t.set (path dt d') v) = .u
                rw [if_pos hl']
                exact h.tl d hdn hlo
              · rw [getT_putT hn (Nat.le_of_lt hdn) (fun d'' e => hdl d'' (by rw [hds]; exact e)) hne]
                exact h.tl d hdn hlo
          · rcases bit_or.1 hb with hb | rfl
            · obtain ⟨q1, q2⟩ := h.t1 d j p hj hd hb
              refine ⟨q1, fun hlo => ?_⟩
              have hne : o.dst ≠ some d := fun e => by have := once_ok hon ho hj e hd; subst this; rw [h1] at hb; cases hb
              rw [getT_putT hn (Nat.le_of_lt q1) hdl hne, old j hb]
              exact q2 hlo
            · rw [ho] at hj
              cases hj
              have hdn := hdl d hd
              refine ⟨hdn, fun hlo => ?_⟩
              rw [hd, upd_same]
              show getT (path dt d) (if lo d then t else t.set (path dt d) v) = v
              rw [hlo]
              simp only [Bool.false_eq_true, if_false]
              rw [getT_get, T4.get_set_same]
              rfl
          · have hne : o.dst ≠ some d := hno i o ho (bit_or.2 (.inr rfl))
            rw [getT_putT hn hdn hdl hne]
            exact h.t2 d hdn fun j p hj hb => hno j p hj (bit_or.2 (.inl hb))
          · rcases bit_or.1 hb with hb | rfl
            · exact h.sl j p hj hb d hd q qo hq hqd
            · rw [ho] at hj; cases hj; exact hsl d hd q qo hq hqd
          · rcases bit_or.1 hb with hb | rfl
            · have hpj := h.pend j p hj hb (fun hc => hlj (.inl hc))
              unfold Pend at hpj ⊢
              rw [ax j hb, old j hb]
              cases hkj : kindM p with
              | pure => rw [hkj] at hpj; exact hpj
              | eff => rw [hkj] at hpj; exact hpj
              | still =>
                left
                have hnot : (ms.getD i 0).testBit j = false := by
                  rw [Bool.eq_false_iff]
                  exact fun hc => hlj (hanc j hc)
                have := due_ok (ms := ms) (kindM := kindM) (i := i) (D := D) (l := ops.toList) (j0 := 0) (j := j) (o := p) (by rw [Array.getElem?_toList]; exact hj) (by rw [Nat.zero_add]; exact hb) hkj (by rw [Nat.zero_add]; exact hnot)
                rw [Nat.zero_add] at this
                exact this
              | make =>
                rw [hkj] at hpj
                rcases hpj with hpj | ⟨r', y', s1, s2, s3, s4, s5, hpj⟩
                · exact .inl hpj
                · obtain ⟨u1, u2⟩ := hs.ghost r' y' s2 s4
                  exact .inr ⟨r', y', s1, u1, s3, u2, s5, hpj⟩
            · exact absurd (.inr rfl) hlj
          · exact Nat.lt_of_lt_of_le (h.rlt j r hr) hs.next
          · refine h.rno j ?_
            rw [Bool.eq_false_iff] at hb ⊢
            exact fun hc => hb (bit_or.2 (.inl hc))
        · refine wpOp_of ho (f1 φ B a w hgφ hra h.wh _ _ fun v' w' ⟨ψ, hv, hs, hw'⟩ => ?_)
          subst e1 e2 e3
          refine hQ ψ a w' _ ⟨v', rfl, hv⟩ ⟨h.sz, hn, fun d hd => ?_, fun d hd hlo => ?_, ?_⟩ (h.st.trans hs) hw'
          · rcases wipe_get (l := ops.toList) (t := t) hn (Nat.le_of_lt hd) h.tl with e | ⟨e, hno⟩
            · rw [e]; exact trivial
            · rw [e]
              cases hlo : lo d with
              | true => rw [h.tl d hd hlo]; exact trivial
              | false =>
                have hno' : ∀ (j : Nat) (p : Oper), ops[j]? = some p → p.dst ≠ some d := fun j p hj hp => by
                  have := hno p (List.mem_of_getElem? (by rw [Array.getElem?_toList]; exact hj)) hp hd
                  rw [hlo] at this
                  cases this
                rw [h.t2 d (Nat.le_of_lt hd) (fun j p hj _ => hno' j p hj), h.i4 d (fun j p hj _ => hno' j p hj)]
                exact (hf.at' d hd).more (h.st.more.trans hs.more)
          · rcases wipe_get (l := ops.toList) (t := t) hn (Nat.le_of_lt hd) h.tl with e | ⟨e, _⟩
            · exact e
            · exact e.trans (h.tl d hd hlo)
          · have hdst : ∀ (d : Nat), d = n → (∀ (j : Nat) (p : Oper), ops[j]? = some p → D.testBit j = true → p.dst ≠ some d) := fun d e j p hj hb hp => by subst e; exact Nat.lt_irrefl _ (h.t1 _ j p hj hp hb).1
            rw [wipe_n hn, h.t2 n (Nat.le_refl n) (hdst n rfl), h.df]
            exact hf.df.more (h.st.more.trans hs.more)
/-- a region that draws its order, by a plan of our own -/
noncomputable def regM (G dt n : Nat) (lo : Nat → Bool) (opM : OpM) (kindM : Oper → Kd) (ops : Array Oper) : Option RM :=
  let ms := masks ops.toList []
  let pl := mkPlan ops ms kindM ops.size 0
  match planB ops ms kindM pl 0 0 [], onceB (dstsOf ops), backB ops.toList 0, Nat.blt n (4 ^ dt) with
  | true, true, true, true => some (planM G dt n lo opM ops kindM pl [])
  | _, _, _, _ => none
theorem regM_ok {opM : OpM} {kindM : Oper → Kd} (hmix : P.follows .mixedOrders = true) (hop : ∀ ds o q, opM ds o = some q → OmOk P G dt n ds o q) {id : Nat} {ops : Array Oper} {m : RM} (h : regM G dt n lo opM kindM ops = some m) : RgOk P G dt n lo id ops m := by
  have h' : (match planB ops (masks ops.toList []) kindM (mkPlan ops (masks ops.toList []) kindM ops.size 0) 0 0 [], onceB (dstsOf ops), backB ops.toList 0, Nat.blt n (4 ^ dt) with
    | true, true, true, true => some (planM G dt n lo opM ops kindM (mkPlan ops (masks ops.toList []) kindM ops.size 0) [])
    | _, _, _, _ => none) = some m := h
  split at h'
  · rename_i hpb hon hbk hcap
    cases h'
    intro hd hok t hp k r hr
    have hn : n < 4 ^ dt := by simpa [Nat.blt_eq] using hcap
    · have z : ∀ i, (0 : Nat).testBit i = true → False := fun i h => by simp at h
      obtain ⟨x, t', hp', h1, h2⟩ := trace_of (t0 := t) (val := fun _ => .u) (rid := fun _ => none) (Nat.le_of_lt hn) hon hop hok _ [] [] t hp 0 0 [] k r hpb ⟨(fun d j' h => by cases h), fun j o d _ h => (z _ h).elim, fun d _ _ => rfl⟩ (fun c hc => by cases hc) (fun i h => (z i h).elim) hr
      refine ⟨x, t', hp', h1, fun φ B a w g1 g2 g3 Q hQ => wp_region_any hmix ?_⟩
      obtain ⟨hw1, hs1⟩ := WR.drew g3
      have hun : ∀ l : Array Bool, un ops.size l ≤ ops.size := fun l => by
        unfold un
        refine Nat.le_trans (List.length_filter_le _ _) ?_
        simp
      have hLA : ∀ i, ¬ LA (Array.replicate ops.size false) i := fun i h => by
        unfold LA at h
        rw [Array.getD_eq_getD_getElem?, Array.getElem?_replicate] at h
        split at h <;> simp at h
      have h0 : RI P G dt n lo ops (masks ops.toList []) kindM t φ hp w.drew a B x t' hp' (mkPlan ops (masks ops.toList []) kindM ops.size 0) (fun _ => .u) (fun _ => none) t hp 0 0 [] (LA (Array.replicate ops.size false)) a w.drew φ :=
        ⟨h2, hpb, fun i h => (hLA i h).elim, fun i o _ _ h => (z i h).elim, fun i o _ h => (hLA i h).elim, fun i h => (z i h).elim, fun i h => (z i h).elim, hw1, Step.refl, g2.sz, rfl, fun i o d _ h => (hLA i h).elim, fun d _ => rfl, g2.lo, fun d j o _ _ h => (z j h).elim, fun d _ _ => rfl, fun i o _ h => (z i h).elim, fun i o _ h => (z i h).elim, (fun i j r h => by cases h), (fun i r h => by cases h), fun i _ => rfl⟩
      obtain ⟨_, _, _, _, _, _, _, h3, h4⟩ := RI.rest hn hon h0
      exact any_order hn hon hbk (fun i j hj S hS hi => anc_ok hj hS hi) g1 g2 hw1 (fun ψ a' w' x' f0 f1 f2 f3 => hQ ψ a' w' x' f0 f1 (hs1.trans f2) f3) ops.size _ _ _ _ _ _ _ _ _ _ _ (by simp) (hun _) h3 h4
  · cases h'
end
end Go.Proofs.YtnfokaecobddkaaGreatDoor.Clo
end
section
/- The closed run: all operations, by what they are. -/
namespace Go.Proofs.YtnfokaecobddkaaGreatDoor.Clo
open Go.RowKit
set_option linter.unusedVariables false
set_option linter.unusedSimpArgs false
set_option linter.constructorNameAsVariable false
section
variable {P : Program} {G dt n : Nat} {ds : List (Option Nat)} {o : Oper}
/-- a slice built of its parts -/
theorem buildSl_ok {t el : TypeId} {len : Nat} {parts : Array (Nat × Operand)} {i : TypeInfo} {z : Value} {zc : AV} {L : List (Nat × Nat × GV)} (ho : o.op = .buildSlice t len parts)
    (hu : P.underlying t = some (.slice el)) (hi : P.info? el = some i) (hz : i.zero = some z) (hzs : z.cells.size = i.size) (hzc : (ofConst z).cellsO = some zc) (h24 : len * i.size ≤ 2 ^ 24)
    (hL : plan G dt n ds (fun x => some (x * i.size, i.size)) parts.toList = some L) :
    MakeOk P G dt n ds o (fun e t0 hp k => fillR L e t0 (madeA zc len) fun c => newF el c hp fun r hp => k (.sl r 0 len (some len)) hp) := by
  intro e t0 hp k r hr
  obtain ⟨cells', h1, h2⟩ := fillR_some hL hr
  obtain ⟨m, nx, e', hl, h3⟩ := newF_some h1
  refine ⟨m, nx, _, _, e', hl, rfl, h3, fun φ a w g1 g2 => ?_⟩
  generalize hzz : (Array.range (len * i.size)).map (fun j => z.cells[j % z.cells.size]!) = zs
  have hzl : VL φ (madeA zc len) zs.toList := by
    obtain ⟨h7, _⟩ := AV.cellsO_ok hzc (ofConst_ok φ z)
    have : zs = madeCells z.cells (len * z.cells.size) := by rw [← hzz, ← hzs]; rfl
    rw [this, made_list]
    exact madeA_ok h7 len
  obtain ⟨ca', f1, f2, f3⟩ := h2 φ a.eval zs (parts_of (by rw [ho]; rfl) g2) hzl
  have hf : Instr.fill (fun x => some (x * i.size, i.size)) zs (parts.map fun (i, x) => (i, a.eval x)).toList = some ca' := by
    rw [Array.toList_map]; simpa using f1
  refine ⟨.slice (some ⟨w.heap.size, 0, none⟩) len len, _, _, _, ?_, .alloc _ _, row_says f2, fun ψ _ hn => ⟨_, len, hn, rfl, Nat.le_refl _, fun _ h => by cases h; rfl⟩⟩
  have hb : ∀ parts : Array (Nat × Value), Instr.fill (fun x => some (x * i.size, i.size)) zs parts.toList = some ca' → (Instr.buildSlice t len parts).run P w = .ok (.slice (some ⟨w.heap.size, 0, none⟩) len len) (w.alloc (.cells ca' el)) := by
    intro parts hf
    have h24' : ¬ (2 ^ 24 < len * i.size) := by omega
    by_cases h0 : len * i.size = 0
    · have hzs0 : zs = #[] := by rw [← hzz, h0]; simp
      subst hzs0
      have hm : ∀ f : Nat → Value, Array.map f (Array.range 0) = #[] := fun f => by simp
      simp [Instr.buildSlice, run_underlying hu, sizeOf, typeInfo, hi, h0, hm, hf, newRow]
    · subst hzz
      have h24'' : ¬ (16777216 < len * i.size) := by omega
      simp [Instr.buildSlice, run_underlying hu, sizeOf, typeInfo, hi, h0, h24'', zeroValue, hz, hf, newRow]
  unfold execOp
  simp only [ho, Sem.run_bind, hb _ hf, Result.andThen_ok]
  rfl
/-- a panic -/
theorem panic_ok {x : Operand} (ho : o.op = .panic x) : OpOk P G dt n ds o (.mk fun _ e t hp _ kp => ((opd G dt n ds x).run e t).on_ifc fun ty v => kp (.ifc ty v) hp) := by
  intro hd hok e t hp k kp r hr
  obtain ⟨ty, v, hv, h1⟩ := AV.on_ifc_some (show ((opd G dt n ds x).run e t).on_ifc (fun ty v => kp (.ifc ty v) hp) = some r from hr)
  refine .inr ⟨_, hp, h1, fun φ B a w g1 g2 g3 K Q hQ => ?_⟩
  have hx := g2 x (by rw [ho]; simp [Op.operands])
  rw [hv] at hx
  obtain ⟨u, e1, hu⟩ := hx
  have e1' : a.eval x = .iface ty u := e1
  have hrun : (execOp a.eval o).run P w = .halt (.panic (.iface ty u)) w := by
    unfold execOp
    rw [ho]
    simp [e1', Instr.panic, goPanic, Sem.run]
  unfold Oper.wp
  rw [hrun]
  exact hQ (.iface ty u) w ⟨φ, ⟨u, rfl, hu⟩, Step.refl, g3⟩
end
def notIfc : TypeDesc → Bool
  | .interface _ => false
  | _ => true
theorem notIfc_ok {d : TypeDesc} (h : notIfc d = true) : ∀ ms, d ≠ .interface ms := fun ms e => by subst e; cases h
/-! ### all of them -/
abbrev OD (P : Program) (G dt n : Nat) (ds : List (Option Nat)) (o : Oper) := Option { q : Kd × OM // OmOk P G dt n ds o q }
section
variable {P : Program} {G dt n : Nat} {ds : List (Option Nat)} {o : Oper} {F : VM}
noncomputable def odP (h : PureOk P G dt n ds o F) : OD P G dt n ds o := some ⟨(.pure, .mk fun _ e t hp k _ => F e t hp k), F, rfl, h⟩
noncomputable def odS (h : StillOk P G dt n ds o F) : OD P G dt n ds o := some ⟨(.still, .mk fun _ e t hp k _ => F e t hp k), F, rfl, h⟩
noncomputable def odM (h : MakeOk P G dt n ds o F) : OD P G dt n ds o := some ⟨(.make, .mk fun _ e t hp k _ => F e t hp k), F, rfl, h⟩
noncomputable def odV (h : ValOk P G dt n ds o F) : OD P G dt n ds o := some ⟨(.eff, .mk fun _ e t hp k _ => F e t hp k), h.op⟩
noncomputable def odE {m : OM} (h : OpOk P G dt n ds o m) : OD P G dt n ds o := some ⟨(.eff, m), h⟩
theorem callB {c : Call} {b : Builtin} {ars : List Operand} {ts : List TypeId} (ho : o.op = .call c) (h1 : c.callee = .builtin b) (h2 : c.args.toList = ars) (h3 : c.argTypes.toList = ts) : o.op = .call { callee := .builtin b, args := ars.toArray, argTypes := ts.toArray } := by
  obtain ⟨cal, args, tys⟩ := c
  simp only at h1 h2 h3
  subst h1 h2 h3
  rw [ho]
theorem callV {c : Call} {f : Operand} (ho : o.op = .call c) (h1 : c.callee = .value f) : o.op = .call { callee := .value f, args := c.args, argTypes := c.argTypes } := by
  obtain ⟨cal, args, tys⟩ := c
  simp only at h1
  subst h1
  rw [ho]
end
noncomputable def odBuiltin (P : Program) (G dt n : Nat) (ds : List (Option Nat)) (o : Oper) (c : Call) (ho : o.op = .call c) (b : Builtin) (hb : c.callee = .builtin b) : OD P G dt n ds o :=
  match h2 : c.args.toList, h3 : c.argTypes.toList with
  | [x], [t] => match b, hb with
    | .len, hb => match hu : P.underlying t with
      | some .string => odP (lenS_ok (callB ho hb h2 h3) hu)
      | some (.slice _) => odP (lenV_ok (callB ho hb h2 h3) hu)
      | _ => none
    | .cap, hb => match hu : P.underlying t with
      | some (.slice _) => odP (cap_ok (callB ho hb h2 h3) hu)
      | _ => none
    | .unsafeSliceData, hb => odP (sliceData_ok (callB ho hb h2 h3))
    | _, _ => none
  | [x, y], [t, t'] => match b, hb with
    | .append, hb => match hu : P.underlying t with
      | some (.slice e) => match hi : P.info? e with
        | some i => match hz : i.zero with
          | some z => if hzs : z.cells.size = i.size then
              (match hk : P.underlying t' with
              | some (.slice e') => odV (append_ok (callB ho hb h2 h3) hu hi hz hzs (.inl ⟨e', hk⟩))
              | some .string => odV (append_ok (callB ho hb h2 h3) hu hi hz hzs (.inr hk))
              | _ => none)
            else none
          | none => none
        | none => none
      | _ => none
    | .copy, hb => match hu : P.underlying t with
      | some (.slice e) => match hi : P.info? e with
        | some i => odV (copy_ok (callB ho hb h2 h3) hu hi)
        | none => none
      | _ => none
    | .min, hb => odP (min_ok (callB ho hb h2 h3))
    | .max, hb => odP (max_ok (callB ho hb h2 h3))
    | .unsafeString, hb => match hu : P.underlying t with
      | some (.pointer e) => if hc : P.cellsOf e = 1 then odV (unsafeString_ok (callB ho hb h2 h3) hu hc) else none
      | _ => none
    | _, _ => none
  | _, _ => none
noncomputable def odConvert (P : Program) (G dt n : Nat) (ds : List (Option Nat)) (o : Oper) (s t : TypeId) (x : Operand) (ho : o.op = .convert s t x) : OD P G dt n ds o :=
  match hs : P.underlying s, ht : P.underlying t with
  | some d, some (.int kd) => odP (convInt_ok ho hs ht)
  | some (.slice el), some .string => match he : P.underlying el with
    | some (.int .u8) => odS (convText_ok ho hs he ht)
    | _ => none
  | some .string, some (.slice el) => match he : P.underlying el with
    | some (.int .u8) => odM (convBytes_ok ho hs ht he)
    | _ => none
  | some (.pointer te), some .unsafePointer => match hi : P.info? te with
    | some i => if hz : i.size ≠ 0 then odS (toUnsafe_ok ho hs ht hi hz) else none
    | none => none
  | some .unsafePointer, some (.pointer u) => match hi : P.info? u with
    | some i => odS (fromUnsafe_ok ho hs ht hi)
    | none => none
  | _, _ => none
noncomputable def odBin (P : Program) (G dt n : Nat) (ds : List (Option Nat)) (o : Oper) (op : BinOp) (t yt : TypeId) (x y : Operand) (ho : o.op = .binOp op t x y yt) : OD P G dt n ds o :=
  match hu : P.underlying t with
  | some (.struct fs) => match hs : P.stoodInHeld t, hm : P.eqGuardType P.depth t, hL : plainF P fs.toList with
    | false, false, some L => odP (binS_ok ho hu hs hm hL)
    | _, _, _ => none
  | some (.pointer e) => match hi : P.info? e with
    | some i => odP (binP_ok ho hu hi)
    | none => none
  | _ => odP (bin_ok ho)
noncomputable def odBuild (P : Program) (G dt n : Nat) (ds : List (Option Nat)) (o : Oper) (t : TypeId) (parts : Array (Nat × Operand)) (ho : o.op = .build t parts) : OD P G dt n ds o :=
  match hit : P.info? t with
  | some it => match hz : it.zero with
    | some z => match hzc : (ofConst z).cellsO with
      | some zc => match hu : P.underlying t with
        | some (.struct fields) => match hpl : fields.toList.mapM (fun f => (P.info? f.type).map fun i => (f.offset, i.size)) with
          | some places => match hL : plan G dt n ds (fun x => places[x]?) parts.toList with
            | some L => odP (buildS_ok ho hu hit hz hzc hpl hL)
            | none => none
          | none => none
        | some (.array len el) => match hi : P.info? el with
          | some i => match hL : plan G dt n ds (fun x => some (x * i.size, i.size)) parts.toList with
            | some L => odP (buildA_ok ho hu hit hz hzc hi hL)
            | none => none
          | none => none
        | _ => none
      | none => none
    | none => none
  | none => none
noncomputable def odSlice (P : Program) (G dt n : Nat) (ds : List (Option Nat)) (o : Oper) (t : TypeId) (x : Operand) (low high : Option Operand) (ho : o.op = .slice t x low high none) : OD P G dt n ds o :=
  match hu : P.underlying t with
  | some .string => odP (sliceS_ok ho hu)
  | some (.slice el) => match hi : P.info? el with
    | some i => odP (sliceV_ok ho hu hi)
    | none => none
  | some (.array len el) => match hi : P.info? el with
    | some i => odP (sliceP_ok ho hu hi)
    | none => none
  | _ => none
noncomputable def odAddr (P : Program) (G dt n : Nat) (ds : List (Option Nat)) (o : Oper) (t : TypeId) (x y : Operand) (ho : o.op = .indexAddr t x y) : OD P G dt n ds o :=
  match hu : P.underlying t with
  | some (.slice el) => match hi : P.info? el with
    | some i => odP (indexAddrG_ok ho hu hi)
    | none => none
  | some (.array len el) => match hi : P.info? el with
    | some i => odP (indexAddrA_ok ho hu hi)
    | none => none
  | _ => none
noncomputable def odBuildSlice (P : Program) (G dt n : Nat) (ds : List (Option Nat)) (o : Oper) (t : TypeId) (len : Nat) (parts : Array (Nat × Operand)) (ho : o.op = .buildSlice t len parts) : OD P G dt n ds o :=
  match hu : P.underlying t with
  | some (.slice el) => match hi : P.info? el with
    | some i => match hz : i.zero with
      | some z => match hzc : (ofConst z).cellsO with
        | some zc => if hzs : z.cells.size = i.size then (if h24 : len * i.size ≤ 2 ^ 24 then
            (match hL : plan G dt n ds (fun x => some (x * i.size, i.size)) parts.toList with
            | some L => odM (buildSl_ok ho hu hi hz hzs hzc h24 hL)
            | none => none) else none) else none
        | none => none
      | none => none
    | none => none
  | _ => none
noncomputable def odMap (P : Program) (G dt n : Nat) (ds : List (Option Nat)) (o : Oper) (mT : TypeId) (x y u : Operand) (ho : o.op = .mapUpdate mT x y u ∨ o.op = .insert mT x y u) : OD P G dt n ds o :=
  match hu : P.underlying mT with
  | some (.map kt el) => match hk : P.underlying kt with
    | some d => odV (update_ok ho hu hk)
    | none => none
  | _ => none
noncomputable def odAll (P : Program) (G dt n : Nat) (ds : List (Option Nat)) (o : Oper) : OD P G dt n ds o :=
  match ho : o.op with
  | .move x => odP (move_ok (.inl ho))
  | .assign x => odP (move_ok (.inr ho))
  | .pick c x y => odP (pick_ok ho)
  | .alloc t => match hi : P.info? t with
    | some i => match hz : i.zero with
      | some z => match hc : (ofConst z).cellsO with
        | some c => odM (alloc_ok ho hi hz hc)
        | none => none
      | none => none
    | none => none
  | .box t x => odM (box_ok ho)
  | .build t parts => odBuild P G dt n ds o t parts ho
  | .buildSlice t len parts => odBuildSlice P G dt n ds o t len parts ho
  | .insert t m k v => odMap P G dt n ds o t m k v (.inr ho)
  | .mapUpdate t m k v => odMap P G dt n ds o t m k v (.inl ho)
  | .load t x => match ha : aggT P t, hi : P.info? t with
    | some agg, some i => odS (load_ok ho ha hi)
    | _, _ => none
  | .store t x y => match hi : P.info? t with
    | some i => odV (store_ok ho hi)
    | none => none
  | .nilCheck x => odP (nilCheck_ok ho)
  | .binOp op t x y yt => odBin P G dt n ds o op t yt x y ho
  | .unOp .not t x => odP (not_ok ho)
  | .convert s t x => odConvert P G dt n ds o s t x ho
  | .makeInterface t x => match hd : P.underlying t with
    | some d => match hn : notIfc d with
      | true => odP (makeInterface_ok ho hd (notIfc_ok hn))
      | false => none
    | none => none
  | .makeFunc f xs ys => odP (makeFunc_ok ho)
  | .makeMap t none => odM (makeMap_ok ho)
  | .makeSlice t x y => match hu : P.underlying t with
    | some (.slice el) => match hi : P.info? el with
      | some i => match hz : i.zero with
        | some z => match hzc : (ofConst z).cellsO with
          | some zc => if hzs : z.cells.size = i.size then odM (makeSlice_ok ho hu hi hz hzs hzc) else none
          | none => none
        | none => none
      | none => none
    | _ => none
  | .slice t x low high none => odSlice P G dt n ds o t x low high ho
  | .fieldAddr s x f => match hs : P.underlying s with
    | some (.struct fs) => match hf : fs[f]? with
      | some fd => match hi : P.info? fd.type with
        | some i => if hz : i.size ≠ 0 then odP (fieldAddr_ok ho hs hf hi hz) else none
        | none => none
      | none => none
    | _ => none
  | .indexAddr t x y => odAddr P G dt n ds o t x y ho
  | .index t x y => match hu : P.underlying t with
    | some .string => odP (indexS_ok ho hu)
    | _ => none
  | .lookup mT x y ok => match hu : P.underlying mT with
    | some (.map kt el) => match hk : P.underlying kt, hi : P.info? el with
      | some d, some i => match hz : i.zero with
        | some z => odS (lookup_ok ho hu hk hi hz)
        | none => none
      | _, _ => none
    | _ => none
  | .range t x => match hu : P.underlying t with
    | some .string => odM (rangeS_ok ho hu)
    | _ => none
  | .next x true => odV (nextS_ok ho)
  | .typeAssert x xT t false => match hu : P.underlying t with
    | some d => match hn : notIfc d with
      | true => odP (assert_ok ho hu (notIfc_ok hn))
      | false => none
    | none => none
  | .extract x j => odP (extract_ok ho)
  | .panic x => odE (panic_ok ho)
  | .call c => match hc : c.callee with
    | .value f => odE (call_ok (callV ho hc))
    | .builtin b => odBuiltin P G dt n ds o c ho b hc
    | .invoke _ _ => none
  | _ => none
end Go.Proofs.YtnfokaecobddkaaGreatDoor.Clo
end
