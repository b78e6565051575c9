/- Part 8 of a proof laid in parts, one behind the other; no condition of its own. -/
import Derived.Test.YtknjkljigmepjaaGreatDoorZ07
import Derived.OrdersIn
import Derived.DeepKeys3
import Derived.WideKeyRuns
import Derived.Test.YtknjkljigmepjaaGreatDoorZ06
import Derived.Conc.LoneSelect
set_option linter.all false
section
namespace Go.Proofs.YtknjkljigmepjaaGreatDoor.Clo
open Go.RowKit
set_option linter.unusedVariables false
set_option linter.unusedSimpArgs false
set_option linter.constructorNameAsVariable false
variable [Tabs]
section
variable {φ φ0 : Id → Option Plc} {h h0 : Mem} {nx nx0 : Id} {w w0 w' : World} {sts : List Site} {B : Bse sts} {x : Blk} {ob : Obj} {K : Nat × Nat} {r : Id}
theorem get_set_ne (hw : WR φ B h nx w) {q : Id} (hq : h.get q ≠ none) : (h.set nx x).get q = h.get q := by
  have hf := hw.fresh q (.inl hq)
  exact T4.get_set_other x nx q h (hw.len.trans hf.1.symm) (fun e => by subst e; exact hq hw.nx_none.1)
theorem WR.phantom (hw : WR φ B h nx w) (hl : last nx = false) : WR φ B (h.set nx x) (inc nx) w := by
  obtain ⟨hn1, hn2⟩ := hw.nx_none
  have hinc := inc_num nx hl
  have back : ∀ q y, (h.set nx x).get q = some y → q ≠ nx → h.get q = some y := fun q y e hq => T4.get_of_set x nx q h y e hq
  have ne : ∀ q (g : Plc), φ q = some g → q ≠ nx := fun q g e he => by subst he; rw [hn2] at e; cases e
  refine ⟨by rw [inc_len]; exact hw.len, fun q hq => ?_, fun q y g hq hg => hw.blk q y g (back q y hq (ne q g hg)) hg, fun q q' y y' g g' hq hq' hg hg' => hw.inj q q' y y' g g' (back q y hq (ne q g hg)) (back q' y' hq' (ne q' g' hg')) hg hg', hw.lt, fun q y g hq hy hg => hw.base q y g (back q y hq (ne q g hg)) hy hg, hw.bsz, hw.loops, hw.tabs⟩
  by_cases hqn : q = nx
  · subst hqn; exact ⟨hw.len, by rw [hinc]; omega⟩
  · have : h.get q ≠ none ∨ φ q ≠ none := by
      rcases hq with hq | hq
      · left
        cases e : (h.set nx x).get q with
        | none => exact absurd e hq
        | some y => rw [back q y e hqn]; simp
      · exact .inr hq
    have hf := hw.fresh q this
    exact ⟨hf.1, by rw [hinc]; omega⟩
theorem Step.phantom (hw : WR φ B h nx w) (hl : last nx = false) (hs : Step φ0 h0 nx0 w0 φ h nx w) : Step φ0 h0 nx0 w0 φ (h.set nx x) (inc nx) w := by
  obtain ⟨hn1, hn2⟩ := hw.nx_none
  have hinc := inc_num nx hl
  refine ⟨hs.more, hs.os, hs.tape, hs.out, hs.size, hs.keep, fun g hg ⟨q, y, k, h1, h2, h3, h4⟩ => hs.back g hg ⟨q, y, k, T4.get_of_set x nx q h y h1 (fun e => by subst e; rw [hn2] at h3; cases h3), h2, h3, h4⟩, fun q y hq hn => ?_, by have := hs.next; omega, hs.old, hs.lk⟩
  obtain ⟨h1, h2⟩ := hs.ghost q y hq hn
  exact ⟨(get_set_ne hw (by rw [h1]; simp)).trans h1, h2⟩
theorem RW.unset (hw : WR φ B h nx w) {ψ : Id → Option Plc} {w1 : World} (hr : RW ψ (h.set nx x) w1) : RW ψ h w1 := ⟨fun q y g hq hg => hr.blk q y g ((get_set_ne hw (by rw [hq]; simp)).trans hq) hg⟩
theorem WR.fill (hw : WR φ B h nx w) (hr : h.get r = some x) (hro : x.ro = false) (hn : φ r = none) (hN : NewW w ob w') (hx : x.says φ K ob) : WR (ext φ r (w.heap.size, K)) B h nx w' := by
  have hm : More φ (ext φ r (w.heap.size, K)) := ext_more _ hn
  have hlt : ∀ q g, φ q = some g → g.1 ≠ w.heap.size := fun q g e => Nat.ne_of_lt (hw.lt q g e)
  refine ⟨hw.len, fun q hq => ?_, fun q y g hq hg => ?_, fun q q' y y' g g' hq hq' hg hg' hgg => ?_, fun q g hg => ?_, fun q y g hq hy hg => ?_, by rw [hN.size]; have := hw.bsz; omega, hw.loops.mono hm (LK.same hN.old), hw.tabs.keep fun j hj => hN.old j (Nat.lt_of_lt_of_le hj hw.bsz)⟩
  · by_cases e : q = r
    · subst e; exact hw.fresh q (.inl (by rw [hr]; simp))
    · refine hw.fresh q ?_
      rcases hq with hq | hq
      · exact .inl hq
      · right; rw [ext_other φ _ e] at hq; exact hq
  · by_cases e : q = r
    · subst e
      rw [hr] at hq
      rw [ext_same] at hg
      cases hq; cases hg
      exact ⟨ob, hN.at', Blk.says_more hm hx⟩
    · rw [ext_other φ _ e] at hg
      obtain ⟨o', h1, h2⟩ := hw.blk q y g hq hg
      exact ⟨o', (hN.old g.1 (hw.lt q g hg)).trans h1, Blk.says_more hm h2⟩
  · by_cases e : q = r
    · subst e
      rw [ext_same] at hg
      cases hg
      by_cases e' : q' = q
      · exact e'.symm
      · rw [ext_other φ _ e'] at hg'
        exact absurd hgg.symm (hlt q' _ hg')
    · rw [ext_other φ _ e] at hg
      by_cases e' : q' = r
      · subst e'
        rw [ext_same] at hg'
        cases hg'
        exact absurd hgg (hlt q _ hg)
      · rw [ext_other φ _ e'] at hg'
        exact hw.inj q q' y y' g g' hq hq' hg hg' hgg
  · rw [hN.size]
    by_cases e : q = r
    · subst e; rw [ext_same] at hg; cases hg; show w.heap.size < _; omega
    · rw [ext_other φ _ e] at hg; have := hw.lt q g hg; omega
  · by_cases e : q = r
    · subst e; rw [ext_same] at hg; cases hg; exact hw.bsz
    · rw [ext_other φ _ e] at hg; exact hw.base q y g hq hy hg
theorem Step.fill {w0' : World} {sts0 : List Site} {B0 : Bse sts0} (hw0 : WR φ0 B0 h0 nx0 w0') (hs : Step φ0 h0 nx0 w0 φ h nx w) (hn : φ r = none) (hnum : num nx0 ≤ num r) (hN : NewW w ob w') : Step φ0 h0 nx0 w0 (ext φ r (w.heap.size, K)) h nx w' := by
  have hne : ∀ q, num q < num nx0 → q ≠ r := fun q hq e => by subst e; omega
  refine ⟨hs.more.trans (ext_more _ hn), hN.os.trans hs.os, hN.tape.trans hs.tape, hN.out.trans hs.out, by rw [hN.size]; have := hs.size; omega, fun g hg ho => (hN.old g (Nat.lt_of_lt_of_le hg hs.size)).trans (hs.keep g hg ho), fun g hg ⟨q, y, k, h1, h2, h3, h4⟩ => ?_, fun q y hq hn' => ?_, hs.next, fun q hl hq => (ext_other φ _ (hne q hq)).trans (hs.old q hl hq), hs.lk.trans (LK.same hN.old)⟩
  · by_cases e : q = r
    · subst e
      rw [ext_same] at h3
      cases h3
      simp only at h4
      have := hs.size
      omega
    · rw [ext_other φ _ e] at h3
      exact hs.back g hg ⟨q, y, k, h1, h2, h3, h4⟩
  · obtain ⟨h1, h2⟩ := hs.ghost q y hq hn'
    have hf := hw0.fresh q (.inl (by rw [hq]; simp))
    exact ⟨h1, (ext_other φ _ (hne q hf.2)).trans h2⟩
end
end Go.Proofs.YtknjkljigmepjaaGreatDoor.Clo
end
section
namespace Go.Proofs.YtknjkljigmepjaaGreatDoor.Clo
open Go.RowKit
set_option linter.unusedVariables false
set_option linter.unusedSimpArgs false
set_option linter.constructorNameAsVariable false
variable [Tabs]
section
variable (P : Program) (G dt n : Nat) (lo : Nat → Bool) (ops : Array Oper) (ms : List Nat) (kindM : Oper → Kd) (t0 : Tr)
def Pend (φ : Id → Option Plc) (nx0 : Id) (val : Nat → AV) (rid : Nat → Option Id) (hp : HP) (C : List Nat) (i : Nat) (o : Oper) : Prop := match kindM o with
  | .pure => FactP P ops o (Ax G dt n ops ms val t0 i) (val i)
  | .still => i ∈ C ∨ FactS P G ops o (Ax G dt n ops ms val t0 i) (val i) hp
  | .make => NotW ops o (Ax G dt n ops ms val t0 i) (val i) ∨ ∃ r x, rid i = some r ∧ hp.m.get r = some x ∧ x.ro = false ∧ φ r = none ∧ num nx0 ≤ num r ∧ MakeAt P G ops o (Ax G dt n ops ms val t0 i) (val i) r x
  | .eff => False
structure RI (φ0 : Id → Option Plc) (hp0 : HP) (w0 : World) (a0 : Act) {yy : Ys} (B : Bse yy.s) (x : Ex) (t' : Tr) (hp' : HP) (pl : List PI) (val : Nat → AV) (rid : Nat → Option Id) (t : Tr) (hp : HP) (D E : Nat) (C : List Nat) (L : Nat → Prop) (a : Act) (w : World) (φ : Id → Option Plc) : Prop where
  tr : Trace P G dt n lo ops ms kindM yy t0 pl val rid t hp x t' hp'
  pb : planB ops ms kindM pl D E C = true
  LD : ∀ i, L i → D.testBit i = true
  EL : ∀ i o, ops[i]? = some o → kindM o = .eff → D.testBit i = true → L i
  cl : Closed ops L
  Dc : ∀ i, D.testBit i = true → subB (ms.getD i 0) D = true
  ns : ∀ i, D.testBit i = true → (ms.getD i 0).testBit i = false
  wh : WH φ B hp w
  st : StH φ0 hp0 w0 φ hp w
  sz : a.tmps.size = n
  df : a.defers = a0.defers
  i3 : ∀ i o d, ops[i]? = some o → L i → o.dst = some d → VR φ (val i) (a.tmps.getD d undef)
  i4 : ∀ d, (∀ i o, ops[i]? = some o → L i → o.dst ≠ some d) → a.tmps.getD d undef = a0.tmps.getD d undef
  tl : ∀ d, d < n → lo d = true → getT (path dt d) t = .u
  t1 : ∀ d j o, ops[j]? = some o → o.dst = some d → D.testBit j = true → d < n ∧ (lo d = false → getT (path dt d) t = val j)
  t2 : ∀ d, d ≤ n → (∀ j o, ops[j]? = some o → D.testBit j = true → o.dst ≠ some d) → getT (path dt d) t = getT (path dt d) t0
  sl : ∀ i o, ops[i]? = some o → D.testBit i = true → ∀ d ∈ reads ops o, ∀ j p, ops[j]? = some p → p.dst = some d → j = i ∨ (ms.getD i 0).testBit j = true ∨ (ms.getD j 0).testBit i = true
  pend : ∀ i o, ops[i]? = some o → D.testBit i = true → ¬ L i → Pend P G dt n ops ms kindM t0 φ hp0.nx val rid hp C i o
  rin : ∀ i j r, rid i = some r → rid j = some r → i = j
  rlt : ∀ i r, rid i = some r → num r < num hp.nx
  rno : ∀ i, D.testBit i = false → rid i = none
end
section
variable {P : Program} {G dt n : Nat} {lo : Nat → Bool} {ops : Array Oper} {ms : List Nat} {kindM : Oper → Kd} {t0 : Tr}
variable {φ0 : Id → Option Plc} {hp0 : HP} {w0 : World} {a0 : Act} {yy : Ys} {B : Bse yy.s} {x : Ex} {t' : Tr} {hp' : HP}
theorem Ax_upd {val : Nat → AV} {i j D : Nat} {v : AV} (hD : D.testBit i = false) (hs : subB (ms.getD j 0) D = true) : Ax G dt n ops ms (upd val i v) t0 j = Ax G dt n ops ms val t0 j := by
  funext y
  cases y with
  | tmp d =>
    simp only [Ax]
    cases hw : Wr ops ms j d with
    | none => rfl
    | some q =>
      have hq := subB_ok hs (wr_some hw).1
      have hne : q ≠ i := fun e => by subst e; rw [hD] at hq; cases hq
      simp only [upd, hne, if_false]
  | _ => rfl
theorem upd_same (val : Nat → AV) (i : Nat) (v : AV) : upd val i v i = v := by simp [upd]
theorem upd_other {val : Nat → AV} {i j : Nat} {v : AV} (h : j ≠ i) : upd val i v j = val j := by simp [upd, h]
theorem getT_putT (hn : n < 4 ^ dt) {t : Tr} {v : AV} {dst : Option Nat} {d : Nat} (hd : d ≤ n) (hdl : ∀ d', dst = some d' → d' < n) (h : dst ≠ some d) : getT (path dt d) (putT dt lo t dst v) = getT (path dt d) t := by
  cases dst with
  | none => rfl
  | some d' =>
    show getT (path dt d) (if lo d' then t else t.set (path dt d') v) = getT (path dt d) t
    split
    · rfl
    · have hp : path dt d ≠ path dt d' := fun e => h (by rw [path_inj dt d d' (by omega) (Nat.lt_trans (hdl d' rfl) hn) e])
      rw [getT_get, T4.get_set_other _ _ _ _ (by rw [path_len, path_len]) hp, ← getT_get]
theorem RI.more (hn : n < 4 ^ dt) (hon : onceB (dstsOf ops) = true) {pl : List PI} {val : Nat → AV} {rid : Nat → Option Id} {t : Tr} {hp : HP} {D E i : Nat} {L : Nat → Prop} {a : Act} {w : World} {φ : Id → Option Plc} {o : Oper}
    (h : RI P G dt n lo ops ms kindM t0 φ0 hp0 w0 a0 B x t' hp' (.run i :: pl) val rid t hp D E [] L a w φ) (ho : ops[i]? = some o) (hk : kindM o ≠ .eff) :
    ∃ val1 rid1 t1 hp1, RI P G dt n lo ops ms kindM t0 φ0 hp0 w0 a0 B x t' hp' pl val1 rid1 t1 hp1 (Nat.lor D (bitOf i)) E [] L a w φ := by
  obtain ⟨o', ho', hdl, htr⟩ := h.tr
  rw [ho] at ho'
  cases ho'
  have hpb := h.pb
  unfold planB at hpb
  simp only [ho, Bool.and_eq_true, Bool.not_eq_true'] at hpb
  obtain ⟨⟨⟨⟨h1, h2⟩, h3⟩, h4⟩, h5⟩ := hpb
  have selfN : (ms.getD i 0).testBit i = false := by
    rw [Bool.eq_false_iff]
    intro hc
    have := subB_ok h2 hc
    rw [h1] at this
    cases this
  have h5' : planB ops ms kindM pl (Nat.lor D (bitOf i)) E [] = true := by
    cases hkk : kindM o <;> first | exact absurd hkk hk | (rw [hkk] at h5; exact h5)
  have hLi : ¬ L i := fun hl => by have := h.LD i hl; rw [h1] at this; cases this
  have mono : ∀ q, subB q D = true → subB q (Nat.lor D (bitOf i)) = true := by
    intro q hq
    have e : q &&& (D ||| bitOf i) = q := by
      apply Nat.eq_of_testBit_eq
      intro b
      rw [Nat.testBit_and, Nat.testBit_or]
      cases hb : q.testBit b with
      | false => rfl
      | true => rw [subB_ok hq hb]; rfl
    show Nat.beq (q &&& (D ||| bitOf i)) q = true
    rw [e, Nat.beq_refl]
  have Dc' : ∀ j, (Nat.lor D (bitOf i)).testBit j = true → subB (ms.getD j 0) (Nat.lor D (bitOf i)) = true := fun j hj => by
    rcases bit_or.1 hj with hj | rfl
    · exact mono _ (h.Dc j hj)
    · exact mono _ h2
  have old : ∀ v j, D.testBit j = true → upd val i v j = val j := fun v j hj => upd_other fun e => by subst e; rw [h1] at hj; cases hj
  have ax : ∀ v j, D.testBit j = true → Ax G dt n ops ms (upd val i v) t0 j = Ax G dt n ops ms val t0 j := fun v j hj => Ax_upd h1 (h.Dc j hj)
  have axi : ∀ v, Ax G dt n ops ms (upd val i v) t0 i = Ax G dt n ops ms val t0 i := fun v => Ax_upd h1 h2
  have mk : ∀ v rid1 hp1, Trace P G dt n lo ops ms kindM yy t0 pl (upd val i v) rid1 (putT dt lo t o.dst v) hp1 x t' hp' → WH φ B hp1 w → StH φ0 hp0 w0 φ hp1 w →
      (∀ j p, ops[j]? = some p → (Nat.lor D (bitOf i)).testBit j = true → ¬ L j → Pend P G dt n ops ms kindM t0 φ hp0.nx (upd val i v) rid1 hp1 [] j p) →
      (∀ i j r, rid1 i = some r → rid1 j = some r → i = j) → (∀ j r, rid1 j = some r → num r < num hp1.nx) → (∀ j, (Nat.lor D (bitOf i)).testBit j = false → rid1 j = none) →
      RI P G dt n lo ops ms kindM t0 φ0 hp0 w0 a0 B x t' hp' pl (upd val i v) rid1 (putT dt lo t o.dst v) hp1 (Nat.lor D (bitOf i)) E [] L a w φ := by
    intro v rid1 hp1 k1 k2 k3 k4 k5 k6 k7
    refine ⟨k1, h5', fun j hj => bit_or.2 (.inl (h.LD j hj)), fun j p hj hkj hb => ?_, h.cl, Dc', fun j hb => ?_, k2, k3, h.sz, h.df, fun j p d hj hl hd => ?_, h.i4, fun d hdn hl => ?_, fun d j p hj hd hb => ?_, fun d hdn hno => ?_, fun j p hj hb d hd q qo hq hqd => ?_, k4, k5, k6, k7⟩
    · rcases bit_or.1 hb with hb | rfl
      · exact h.EL j p hj hkj hb
      · rw [ho] at hj; cases hj; exact absurd hkj hk
    · rcases bit_or.1 hb with hb | rfl
      · exact h.ns j hb
      · exact selfN
    · rw [old v j (h.LD j hl)]; exact h.i3 j p d hj hl hd
    · cases hds : o.dst with
      | none => exact h.tl d hdn hl
      | some d' =>
        show getT (path dt d) (if lo d' then t else t.set (path dt d') v) = .u
        split
        · exact h.tl d hdn hl
        · rename_i hl'
          have hne : (some d' : Option Nat) ≠ some d := fun e => by cases e; exact hl' hl
          have := getT_putT (lo := lo) hn (t := t) (v := v) (Nat.le_of_lt hdn) (fun d'' e => hdl d'' (by rw [hds]; exact e)) hne
          have h' : getT (path dt d) (if lo d' then t else t.set (path dt d') v) = getT (path dt d) t := this
          rw [if_neg hl'] at h'
          rw [h']
          exact h.tl d hdn hl
    · rcases bit_or.1 hb with hb | rfl
      · obtain ⟨q1, q2⟩ := h.t1 d j p hj hd hb
        refine ⟨q1, fun hl => ?_⟩
        have hne : o.dst ≠ some d := fun e => by have := once_ok hon ho hj e hd; subst this; rw [h1] at hb; cases hb
        rw [getT_putT hn (Nat.le_of_lt q1) hdl hne, old v j hb]
        exact q2 hl
      · rw [ho] at hj
        cases hj
        have hdn := hdl d hd
        refine ⟨hdn, fun hl => ?_⟩
        rw [hd, upd_same]
        show getT (path dt d) (if lo d then t else t.set (path dt d) v) = v
        rw [hl]
        simp only [Bool.false_eq_true, if_false]
        rw [getT_get, T4.get_set_same]
        rfl
    · have hne : o.dst ≠ some d := hno i o ho (bit_or.2 (.inr rfl))
      rw [getT_putT hn hdn hdl hne]
      exact h.t2 d hdn fun j p hj hb => hno j p hj (bit_or.2 (.inl hb))
    · rcases bit_or.1 hb with hb | rfl
      · exact h.sl j p hj hb d hd q qo hq hqd
      · rw [ho] at hj
        cases hj
        rcases slotsB_ok h4 hd hq hqd with e | e | ⟨e, _⟩
        · exact .inl e
        · exact .inr (.inl e)
        · exact .inr (.inr e)
  have stay : ∀ v rid1 hp1, (∀ j, D.testBit j = true → rid1 j = rid j) → (∀ r y, hp.m.get r = some y → hp1.m.get r = some y) → (∀ ψ w1, RW ψ hp1.m w1 → RW ψ hp.m w1) → ∀ j p, ops[j]? = some p → D.testBit j = true → ¬ L j → Pend P G dt n ops ms kindM t0 φ hp0.nx (upd val i v) rid1 hp1 [] j p := by
    intro v rid1 hp1 e1 e2 e3 j p hj hb hl
    have hp := h.pend j p hj hb hl
    unfold Pend at hp ⊢
    rw [ax v j hb, old v j hb]
    cases hkj : kindM p with
    | pure => rw [hkj] at hp; exact hp
    | still =>
      rw [hkj] at hp
      rcases hp with hp | hp
      · cases hp
      · right
        rcases hp with hp | hp
        · exact .inl hp
        · exact .inr fun ψ ac w1 g1 g2 g3 => hp ψ ac w1 g1 g2 (e3 ψ w1 g3)
    | make =>
      rw [hkj] at hp
      rcases hp with hp | ⟨r, y, q1, q2, q3⟩
      · exact .inl hp
      · exact .inr ⟨r, y, by rw [e1 j hb]; exact q1, e2 r y q2, q3⟩
    | eff => rw [hkj] at hp; exact hp
  have same : ∀ v, (∀ p, ops[i]? = some p → Pend P G dt n ops ms kindM t0 φ hp0.nx (upd val i v) rid hp [] i p) → Trace P G dt n lo ops ms kindM yy t0 pl (upd val i v) rid (putT dt lo t o.dst v) hp x t' hp' → ∃ val1 rid1 t1 hp1, RI P G dt n lo ops ms kindM t0 φ0 hp0 w0 a0 B x t' hp' pl val1 rid1 t1 hp1 (Nat.lor D (bitOf i)) E [] L a w φ := by
    intro v hpi k1
    refine ⟨_, _, _, _, mk v rid hp k1 h.wh h.st (fun j p hj hb hl => ?_) h.rin h.rlt (fun j hb => h.rno j ?_)⟩
    · rcases bit_or.1 hb with hb | rfl
      · exact stay v rid hp (fun _ _ => rfl) (fun _ _ h => h) (fun _ _ h => h) j p hj hb hl
      · exact hpi p hj
    · rw [Bool.eq_false_iff] at hb ⊢
      exact fun hc => hb (bit_or.2 (.inl hc))
  cases hkk : kindM o with
  | eff => exact absurd hkk hk
  | pure =>
    rw [hkk] at htr
    obtain ⟨v, f1, f2⟩ := htr
    refine same v (fun p hp => ?_) f2
    rw [ho] at hp
    cases hp
    unfold Pend
    rw [hkk, axi v, upd_same]
    exact f1
  | still =>
    rw [hkk] at htr
    obtain ⟨v, f1, f2⟩ := htr
    refine same v (fun p hp => ?_) f2
    rw [ho] at hp
    cases hp
    unfold Pend
    rw [hkk, axi v, upd_same]
    exact .inr f1
  | make =>
    rw [hkk] at htr
    obtain ⟨v, hp1, r0, f1, f2⟩ := htr
    rcases f1 with ⟨f1, e1, e2⟩ | ⟨m, nx, y, e1, hlast, hro, e2, e3, f1⟩
    · subst e1 e2
      refine ⟨_, _, _, _, mk v _ hp1 f2 h.wh h.st (fun j p hj hb hl => ?_) (fun p q r hp hq => ?_) (fun p r hp => ?_) (fun j hb => ?_)⟩
      · rcases bit_or.1 hb with hb | rfl
        · exact stay v _ hp1 (fun q hq => if_neg fun e => by subst e; rw [h1] at hq; cases hq) (fun _ _ h => h) (fun _ _ h => h) j p hj hb hl
        · rw [ho] at hj
          cases hj
          unfold Pend
          rw [hkk, axi v, upd_same]
          exact .inl f1
      · split at hp
        · cases hp
        · split at hq
          · cases hq
          · exact h.rin p q r hp hq
      · split at hp
        · cases hp
        · exact h.rlt p r hp
      · split
        · rfl
        · refine h.rno j ?_
          rw [Bool.eq_false_iff] at hb ⊢
          exact fun hc => hb (bit_or.2 (.inl hc))
    · subst e1 e2 e3
      have hw1 : WR φ B m nx w := h.wh
      have hnx := hw1.nx_none
      refine ⟨_, _, _, _, mk v _ (HP.mk (m.set nx y) (inc nx)) f2 (WR.phantom hw1 hlast) (Step.phantom hw1 hlast h.st) (fun j p hj hb hl => ?_) (fun p q r hp hq => ?_) (fun p r hp => ?_) (fun j hb => ?_)⟩
      · rcases bit_or.1 hb with hb | rfl
        · exact stay v _ (HP.mk (m.set nx y) (inc nx)) (fun q hq => if_neg fun e => by subst e; rw [h1] at hq; cases hq) (fun r z hz => (get_set_ne hw1 (by rw [show m.get r = some z from hz]; simp)).trans hz) (fun ψ w1 hr => RW.unset hw1 hr) j p hj hb hl
        · rw [ho] at hj
          cases hj
          unfold Pend
          rw [hkk, axi v, upd_same]
          exact .inr ⟨nx, y, if_pos rfl, T4.get_set_same y nx m, hro, hnx.2, h.st.next, f1⟩
      · have lt : ∀ p r, rid p = some r → r ≠ nx := fun p' r' hpp e => by have := h.rlt p' r' hpp; rw [e] at this; exact Nat.lt_irrefl _ this
        split at hp
        · rename_i e
          cases hp
          split at hq
          · rename_i e'; rw [e, e']
          · exact absurd rfl (lt q _ hq)
        · split at hq
          · cases hq; exact absurd rfl (lt p _ hp)
          · exact h.rin p q r hp hq
      · show num r < num (inc nx)
        rw [inc_num nx hlast]
        split at hp
        · cases hp; omega
        · have := h.rlt p r hp
          have : num r < num nx := this
          omega
      · split
        · rename_i e
          subst e
          rw [Bool.eq_false_iff] at hb
          exact absurd (bit_or.2 (.inr rfl)) hb
        · refine h.rno j ?_
          rw [Bool.eq_false_iff] at hb ⊢
          exact fun hc => hb (bit_or.2 (.inl hc))
theorem RI.rest (hn : n < 4 ^ dt) (hon : onceB (dstsOf ops) = true) : ∀ {pl : List PI} {val : Nat → AV} {rid : Nat → Option Id} {t : Tr} {hp : HP} {D E : Nat} {C : List Nat} {L : Nat → Prop} {a : Act} {w : World} {φ : Id → Option Plc},
    RI P G dt n lo ops ms kindM t0 φ0 hp0 w0 a0 B x t' hp' pl val rid t hp D E C L a w φ →
    ∃ pl1 val1 rid1 t1 hp1 D1 E1, RI P G dt n lo ops ms kindM t0 φ0 hp0 w0 a0 B x t' hp' pl1 val1 rid1 t1 hp1 D1 E1 [] L a w φ ∧ (pl1 = [] ∨ ∃ i r o, pl1 = .run i :: r ∧ ops[i]? = some o ∧ kindM o = .eff)
  | [], val, rid, t, hp, D, E, [], L, a, w, φ, h => ⟨_, _, _, _, _, _, _, h, .inl rfl⟩
  | [], val, rid, t, hp, D, E, c :: C, L, a, w, φ, h => by have := h.pb; cases this
  | .run i :: pl, val, rid, t, hp, D, E, c :: C, L, a, w, φ, h => by have := h.pb; cases this
  | .run i :: pl, val, rid, t, hp, D, E, [], L, a, w, φ, h => by
    obtain ⟨o, ho, _, _⟩ := h.tr
    by_cases hk : kindM o = .eff
    · exact ⟨_, _, _, _, _, _, _, h, .inr ⟨i, pl, o, rfl, ho, hk⟩⟩
    · obtain ⟨_, _, _, _, h'⟩ := h.more hn hon ho hk
      exact RI.rest hn hon h'
  | .chk i :: pl, val, rid, t, hp, D, E, [], L, a, w, φ, h => by have := h.pb; cases this
  | .chk i :: pl, val, rid, t, hp, D, E, c :: C, L, a, w, φ, h => by
    obtain ⟨o, ho, f1, f2⟩ := h.tr
    have hpb := h.pb
    unfold planB at hpb
    simp only [ho, Bool.and_eq_true] at hpb
    obtain ⟨⟨⟨h1, h2⟩, h3⟩, h4⟩ := hpb
    have h1' : i = c := Nat.eq_of_beq_eq_true h1
    subst h1'
    refine RI.rest hn hon ⟨f2, h4, h.LD, h.EL, h.cl, h.Dc, h.ns, h.wh, h.st, h.sz, h.df, h.i3, h.i4, h.tl, h.t1, h.t2, h.sl, fun j p hj hb hl => ?_, h.rin, h.rlt, h.rno⟩
    have hp := h.pend j p hj hb hl
    unfold Pend at hp ⊢
    cases hkj : kindM p with
    | pure => rw [hkj] at hp; exact hp
    | make => rw [hkj] at hp; exact hp
    | eff => rw [hkj] at hp; exact hp
    | still =>
      rw [hkj] at hp
      rcases hp with hp | hp
      · rcases List.mem_cons.1 hp with rfl | hp
        · rw [ho] at hj
          cases hj
          exact .inr f1
        · exact .inl hp
      · exact .inr hp
theorem RI.rd {t : Tr} {pl : List PI} {val : Nat → AV} {rid : Nat → Option Id} {hp : HP} {D E i : Nat} {C : List Nat} {L : Nat → Prop} {a : Act} {w : World} {φ : Id → Option Plc} {o : Oper} (hms : ∀ i j, (ms.getD i 0).testBit j = true → ∀ S, Closed ops S → S i → S j)
    (hg : Glo G φ0) (hf : ∀ d, d < n → VR φ0 (getT (path dt d) t0) (a0.tmps.getD d undef))
    (h : RI P G dt n lo ops ms kindM t0 φ0 hp0 w0 a0 B x t' hp' pl val rid t hp D E C L a w φ) (ho : ops[i]? = some o) (hL : ¬ L i) (hself : (ms.getD i 0).testBit i = false)
    (hsl : ∀ d ∈ reads ops o, ∀ j p, ops[j]? = some p → p.dst = some d → j = i ∨ (ms.getD i 0).testBit j = true ∨ (ms.getD j 0).testBit i = true) (hrd : ∀ e ∈ o.after, Region.binds .any e = true → L e.on) :
    RdA ops (Ax G dt n ops ms val t0 i) φ a o := by
  have hS : Closed ops (fun j => L j ∨ j = i) := by
    intro j p hj hs e he hb
    rcases hs with hs | rfl
    · exact .inl (h.cl j p hj hs e he hb)
    · rw [ho] at hj; cases hj; exact .inl (hrd e he hb)
  have anc : ∀ j, (ms.getD i 0).testBit j = true → L j ∨ j = i := fun j hj => hms i j hj _ hS (.inr rfl)
  have hmore := h.st.more
  have tmp : ∀ d ∈ reads ops o, VR φ (Ax G dt n ops ms val t0 i (.tmp d)) (a.tmps.getD d undef) := by
    intro d hd
    simp only [Ax]
    have none_case : (∀ j p, ops[j]? = some p → L j → p.dst ≠ some d) → VR φ (if d < n then getT (path dt d) t0 else .u) (a.tmps.getD d undef) := by
      intro hno
      split
      · rename_i hdn
        rw [h.i4 d hno]
        exact (hf d hdn).more hmore
      · exact trivial
    cases hw : Wr ops ms i d with
    | some j =>
      obtain ⟨hm, p, hj, hp⟩ := wr_some hw
      rcases anc j hm with hl | e
      · exact h.i3 j p d hj hl hp
      · subst e; rw [hself] at hm; cases hm
    | none =>
      refine none_case fun j p hj hl hp => ?_
      rcases hsl d hd j p hj hp with e | e | e
      · subst e; exact hL hl
      · exact wr_none hw hj e hp
      · exact hL (hms j i e L h.cl hl)
  refine ⟨fun y hy => ?_, fun d hd => tmp d (by simp [reads, hd])⟩
  cases y with
  | tmp d => exact tmp d (by simp only [reads, List.mem_append, List.mem_filterMap]; exact .inr ⟨_, Array.mem_toList_iff.2 hy, rfl⟩)
  | const v => exact ofConst_ok φ v
  | func f => exact ⟨#[], #[], rfl, rfl, rfl⟩
  | _ =>
    rename_i g
    by_cases hgG : g < G
    · obtain ⟨K, e⟩ := hg g hgG
      have : VR φ0 ((opd G dt n [] (.global g)).run [] t0) (.pointer (some ⟨g, 0, none⟩)) := by
        have h1 : opd G dt n [] (.global g) = .mk fun _ _ => .p (path DB g) 0 := by simp only [opd, hgG, if_true]
        rw [h1]
        exact ⟨(g, K, 0), e, rfl⟩
      exact VR.more this hmore
    · have h1 : opd G dt n [] (.global g) = .mk fun _ _ => .u := by simp only [opd, hgG, if_false]
      simp only [Ax, h1]
      exact trivial
end
end Go.Proofs.YtknjkljigmepjaaGreatDoor.Clo
end
section
namespace Go.Proofs.YtknjkljigmepjaaGreatDoor.Clo
open Go.RowKit
set_option linter.unusedVariables false
set_option linter.unusedSimpArgs false
set_option linter.constructorNameAsVariable false
variable [Tabs]
theorem filter_lt {p q : Nat → Bool} (hpq : ∀ j, q j = true → p j = true) {i : Nat} (h1 : p i = true) (h2 : q i = false) : ∀ {l : List Nat}, (l.filter q).length ≤ (l.filter p).length ∧ (i ∈ l → (l.filter q).length < (l.filter p).length)
  | [] => ⟨Nat.le_refl _, fun h => by cases h⟩
  | y :: l => by
    obtain ⟨a, b⟩ := filter_lt hpq h1 h2 (l := l)
    simp only [List.filter_cons]
    cases hy : q y with
    | true =>
      rw [hpq y hy]
      simp only [if_true, List.length_cons]
      refine ⟨by omega, fun hm => ?_⟩
      rcases List.mem_cons.1 hm with rfl | hm
      · rw [h2] at hy; cases hy
      · have := b hm; omega
    | false =>
      cases hp : p y with
      | true =>
        simp only [if_true, Bool.false_eq_true, if_false, List.length_cons]
        exact ⟨by omega, fun _ => by omega⟩
      | false =>
        simp only [Bool.false_eq_true, if_false]
        refine ⟨a, fun hm => ?_⟩
        rcases List.mem_cons.1 hm with rfl | hm
        · rw [h1] at hp; cases hp
        · exact b hm
def LA (l : Array Bool) : Nat → Prop := fun i => l.getD i false = true
def un (m : Nat) (l : Array Bool) : Nat := ((List.range m).filter fun i => !l.getD i false).length
theorem la_set {l : Array Bool} {i j : Nat} (hi : i < l.size) : LA (l.setIfInBounds i true) j ↔ LA l j ∨ j = i := by
  unfold LA
  simp only [Array.getD_eq_getD_getElem?, Array.getElem?_setIfInBounds]
  by_cases h : i = j
  · subst h; simp [hi]
  · simp [h, Ne.symm h]
theorem un_set {m : Nat} {l : Array Bool} {i : Nat} (hm : l.size = m) (hi : i < m) (hl : ¬ LA l i) : un m (l.setIfInBounds i true) < un m l := by
  unfold un
  refine (filter_lt (i := i) (fun j hj => ?_) ?_ ?_ (l := List.range m)).2 (List.mem_range.2 hi)
  · simp only [Bool.not_eq_true'] at hj ⊢
    rw [Bool.eq_false_iff] at hj ⊢
    exact fun hc => hj ((la_set (by omega)).2 (.inl hc))
  · simp only [Bool.not_eq_true']
    rw [Bool.eq_false_iff]
    exact hl
  · simp only [Bool.not_eq_false']
    exact (la_set (by omega)).2 (.inr rfl)
theorem ready_iff {ops : Array Oper} {l : Array Bool} (hls : l.size = ops.size) {i : Nat} : i ∈ Region.ready .any ops l ↔ ∃ o, ops[i]? = some o ∧ ¬ LA l i ∧ ∀ e ∈ o.after, Region.binds .any e = true → LA l e.on := by
  unfold Region.ready LA
  rw [List.mem_filter, List.mem_range]
  constructor
  · rintro ⟨h1, h2⟩
    rw [Bool.and_eq_true] at h2
    obtain ⟨h2, h3⟩ := h2
    have ho : ops[i]? = some ops[i] := Array.getElem?_eq_getElem h1
    rw [ho] at h3
    refine ⟨ops[i], ho, ?_, fun e he hb => ?_⟩
    · have hil : i < l.size := by omega
      simpa [Array.getD_eq_getD_getElem?, Array.getElem?_eq_getElem hil] using h2
    · have := Array.all_eq_true_iff_forall_mem.1 (show (ops[i].after.all _) = true from h3) e he
      simpa [hb] using this
  · rintro ⟨o, ho, h2, h3⟩
    refine ⟨(Array.getElem?_eq_some_iff.1 ho).1, ?_⟩
    rw [Bool.and_eq_true]
    have hil : i < l.size := by have := (Array.getElem?_eq_some_iff.1 ho).1; omega
    refine ⟨by simpa [Array.getD_eq_getD_getElem?, Array.getElem?_eq_getElem hil] using h2, ?_⟩
    rw [ho]
    show (o.after.all _) = true
    refine Array.all_eq_true_iff_forall_mem.2 fun e he => ?_
    cases hb : Region.binds .any e with
    | false => rfl
    | true => simpa using h3 e he hb
section
variable {P : Program} {G dt n : Nat} {lo : Nat → Bool} {ops : Array Oper} {ms : List Nat} {kindM : Oper → Kd} {t0 : Tr}
variable {φ0 : Id → Option Plc} {hp0 : HP} {w0 : World} {a0 : Act} {yy : Ys} {B : Bse yy.s} {x : Ex} {t' : Tr} {hp' : HP}
theorem wipe_get (hn : n < 4 ^ dt) : ∀ {l : List Oper} {t : Tr} {d : Nat}, d ≤ n → (∀ d', d' < n → lo d' = true → getT (path dt d') t = .u) → getT (path dt d) (wipe dt n lo l t) = .u ∨ (getT (path dt d) (wipe dt n lo l t) = getT (path dt d) t ∧ ∀ o ∈ l, o.dst = some d → d < n → lo d = true)
  | [], t, d, _, _ => .inr ⟨rfl, fun o h => by cases h⟩
  | o :: l, t, d, hd, hl => by
    have step : ∀ t1, (∀ d', d' < n → lo d' = true → getT (path dt d') t1 = .u) → (getT (path dt d) t1 = .u ∨ (getT (path dt d) t1 = getT (path dt d) t ∧ (o.dst = some d → d < n → lo d = true))) → wipe dt n lo (o :: l) t = wipe dt n lo l t1 →
        getT (path dt d) (wipe dt n lo (o :: l) t) = .u ∨ (getT (path dt d) (wipe dt n lo (o :: l) t) = getT (path dt d) t ∧ ∀ p ∈ o :: l, p.dst = some d → d < n → lo d = true) := by
      intro t1 h1 h2 e
      rw [e]
      rcases wipe_get hn (l := l) (t := t1) hd h1 with h3 | ⟨h3, h4⟩
      · exact .inl h3
      · rcases h2 with h2 | ⟨h2, h5⟩
        · exact .inl (h3.trans h2)
        · refine .inr ⟨h3.trans h2, fun p hp hpd hdn => ?_⟩
          rcases List.mem_cons.1 hp with rfl | hp
          · exact h5 hpd hdn
          · exact h4 p hp hpd hdn
    cases hds : o.dst with
    | none => exact step t hl (.inr ⟨rfl, fun e => by rw [hds] at e; cases e⟩) (by simp only [wipe, hds])
    | some d' =>
      by_cases hlo : lo d' = true
      · exact step t hl (.inr ⟨rfl, fun e _ => by rw [hds] at e; cases e; exact hlo⟩) (by simp only [wipe, hds, hlo, if_true])
      · by_cases hdn : d' < n
        · refine step (t.set (path dt d') .u) (fun q hq hlq => ?_) ?_ (by simp only [wipe, hds, hlo, hdn, if_true, if_false, Bool.false_eq_true])
          · by_cases e : q = d'
            · subst e; exact absurd hlq hlo
            · have hp : path dt q ≠ path dt d' := fun e' => e (path_inj dt q d' (Nat.lt_trans hq hn) (Nat.lt_trans hdn hn) e')
              rw [getT_get, T4.get_set_other _ _ _ _ (by rw [path_len, path_len]) hp, ← getT_get]
              exact hl q hq hlq
          · by_cases e : d = d'
            · subst e
              left
              rw [getT_get, T4.get_set_same]
              rfl
            · right
              have hp : path dt d ≠ path dt d' := fun e' => e (path_inj dt d d' (by omega) (Nat.lt_trans hdn hn) e')
              refine ⟨by rw [getT_get, T4.get_set_other _ _ _ _ (by rw [path_len, path_len]) hp, ← getT_get], fun h => by rw [hds] at h; cases h; exact absurd rfl e⟩
        · exact step t hl (.inr ⟨rfl, fun e h => by rw [hds] at e; cases e; exact absurd h hdn⟩) (by simp only [wipe, hds, hlo, hdn, if_false, Bool.false_eq_true])
theorem wipe_n (hn : n < 4 ^ dt) : ∀ {l : List Oper} {t : Tr}, getT (path dt n) (wipe dt n lo l t) = getT (path dt n) t
  | [], t => rfl
  | o :: l, t => by
    have step : ∀ t1, getT (path dt n) t1 = getT (path dt n) t → wipe dt n lo (o :: l) t = wipe dt n lo l t1 → getT (path dt n) (wipe dt n lo (o :: l) t) = getT (path dt n) t := fun t1 h1 e => by rw [e, wipe_n hn, h1]
    cases hds : o.dst with
    | none => exact step t rfl (by simp only [wipe, hds])
    | some d' =>
      by_cases hlo : lo d' = true
      · exact step t rfl (by simp only [wipe, hds, hlo, if_true])
      · by_cases hdn : d' < n
        · refine step (t.set (path dt d') .u) ?_ (by simp only [wipe, hds, hlo, hdn, if_true, if_false, Bool.false_eq_true])
          have hp : path dt n ≠ path dt d' := fun e' => Nat.ne_of_gt hdn (path_inj dt n d' hn (Nat.lt_trans hdn hn) e')
          rw [getT_get, T4.get_set_other _ _ _ _ (by rw [path_len, path_len]) hp, ← getT_get]
        · exact step t rfl (by simp only [wipe, hds, hlo, hdn, if_false, Bool.false_eq_true])
theorem put_frame (hon : onceB (dstsOf ops) = true) {val : Nat → AV} {L : Nat → Prop} {a : Act} {φ : Id → Option Plc} {i : Nat} {o : Oper} (ho : ops[i]? = some o) (hL : ¬ L i) (hdl : ∀ d, o.dst = some d → d < a.tmps.size) {v' : Value}
    (i3 : ∀ i o d, ops[i]? = some o → L i → o.dst = some d → VR φ (val i) (a.tmps.getD d undef)) (i4 : ∀ d, (∀ i o, ops[i]? = some o → L i → o.dst ≠ some d) → a.tmps.getD d undef = a0.tmps.getD d undef) (hv : VR φ (val i) v') :
    (∀ j p d, ops[j]? = some p → (L j ∨ j = i) → p.dst = some d → VR φ (val j) ((a.put o.dst v').tmps.getD d undef)) ∧ (∀ d, (∀ j p, ops[j]? = some p → (L j ∨ j = i) → p.dst ≠ some d) → (a.put o.dst v').tmps.getD d undef = a0.tmps.getD d undef) ∧ (a.put o.dst v').tmps.size = a.tmps.size ∧ (a.put o.dst v').defers = a.defers := by
  refine ⟨fun j p d hj hl hd => ?_, fun d hno => ?_, by cases o.dst <;> simp [Act.put], by cases o.dst <;> rfl⟩
  · rcases hl with hl | rfl
    · have hne : o.dst ≠ some d := fun e => hL (by have := once_ok hon ho hj e hd; rw [this]; exact hl)
      cases hds : o.dst with
      | none => exact i3 j p d hj hl hd
      | some d' => rw [getD_put_other (fun e => hne (by rw [hds, e]))]; exact i3 j p d hj hl hd
    · rw [ho] at hj
      cases hj
      rw [hd, getD_put_same (hdl d hd)]
      exact hv
  · have hne : o.dst ≠ some d := hno i o ho (.inr rfl)
    have := i4 d fun j p hj hl => hno j p hj (.inl hl)
    cases hds : o.dst with
    | none => exact this
    | some d' => rw [getD_put_other (fun e => hne (by rw [hds, e]))]; exact this
theorem RI.come (hon : onceB (dstsOf ops) = true) {pl : List PI} {val : Nat → AV} {rid : Nat → Option Id} {t : Tr} {hp : HP} {D E i : Nat} {L : Nat → Prop} {a : Act} {w w1 : World} {φ φ1 : Id → Option Plc} {o : Oper} {v' : Value}
    (h : RI P G dt n lo ops ms kindM t0 φ0 hp0 w0 a0 B x t' hp' pl val rid t hp D E [] L a w φ) (ho : ops[i]? = some o) (hD : D.testBit i = true) (hL : ¬ L i) (hrd : ∀ e ∈ o.after, Region.binds .any e = true → L e.on)
    (hw : WH φ1 B hp w1) (hs : StH φ0 hp0 w0 φ1 hp w1) (hm : More φ φ1) (hv : VR φ1 (val i) v')
    (hpd : ∀ j p, ops[j]? = some p → D.testBit j = true → ¬ L j → j ≠ i → Pend P G dt n ops ms kindM t0 φ1 hp0.nx val rid hp [] j p) :
    RI P G dt n lo ops ms kindM t0 φ0 hp0 w0 a0 B x t' hp' pl val rid t hp D E [] (fun j => L j ∨ j = i) (a.put o.dst v') w1 φ1 := by
  obtain ⟨f1, f2, f3, f4⟩ := put_frame (a0 := a0) hon ho hL (fun d hd => by rw [h.sz]; exact (h.t1 d i o ho hd hD).1) (fun j p d hj hl hd => (h.i3 j p d hj hl hd).more hm) h.i4 hv
  refine ⟨h.tr, h.pb, fun j hj => ?_, fun j p hj hk hb => .inl (h.EL j p hj hk hb), fun j p hj hs e he hb => ?_, h.Dc, h.ns, hw, hs, f3.trans h.sz, f4.trans h.df, f1, f2, h.tl, h.t1, h.t2, h.sl, fun j p hj hb hl => hpd j p hj hb (fun hc => hl (.inl hc)) (fun hc => hl (.inr hc)), h.rin, h.rlt, h.rno⟩
  · rcases hj with hj | rfl
    · exact h.LD j hj
    · exact hD
  · rcases hs with hs | rfl
    · exact .inl (h.cl j p hj hs e he hb)
    · rw [ho] at hj; cases hj; exact .inl (hrd e he hb)
theorem RI.set {pl : List PI} {val : Nat → AV} {rid : Nat → Option Id} {t : Tr} {hp : HP} {D E : Nat} {C : List Nat} {L L' : Nat → Prop} {a : Act} {w : World} {φ : Id → Option Plc} (hl : ∀ j, L j ↔ L' j)
    (h : RI P G dt n lo ops ms kindM t0 φ0 hp0 w0 a0 B x t' hp' pl val rid t hp D E C L a w φ) : RI P G dt n lo ops ms kindM t0 φ0 hp0 w0 a0 B x t' hp' pl val rid t hp D E C L' a w φ := by
  have : L = L' := funext fun j => propext (hl j)
  subst this
  exact h
end
end Go.Proofs.YtknjkljigmepjaaGreatDoor.Clo
end
section
namespace Go.Proofs.YtknjkljigmepjaaGreatDoor.Clo
open Go.RowKit
set_option linter.unusedVariables false
set_option linter.unusedSimpArgs false
set_option linter.constructorNameAsVariable false
variable [Tabs]
section
variable {P : Program} {G dt n : Nat} {lo : Nat → Bool} {ops : Array Oper} {ms : List Nat} {kindM : Oper → Kd} {t0 : Tr}
variable {φ0 : Id → Option Plc} {hp0 : HP} {w0 : World} {a0 : Act} {yy : Ys} {B : Bse yy.s} {x : Ex} {t' : Tr} {hp' : HP} {Q : Exit → Act → World → Prop}
theorem wpOp_of {ro : Option Nat} {on : Bool} (hdf : ro = none ∨ ops.toList.all noDefer = true) {i : Nat} {K : Act → World → Prop} {a : Act} {w : World} {o : Oper} (ho : ops[i]? = some o) (h : if Region.wanted o (yielded ops a.tmps) = true then OW on P o a w K Q else K (a.put o.dst undef) w) : wpOpIn (Fw ro) 0 P ops Q i K a w := by
  have hd : ro = none ∨ noDefer o = true := hdf.imp id fun hh => List.all_eq_true.1 hh o (by rw [← Array.getElem?_toList] at ho; exact List.mem_of_getElem? ho)
  unfold wpOpIn
  simp only [ho]
  split
  · rename_i hw; rw [if_pos hw] at h; exact operIn_of hd h fun a w k => k
  · rename_i hw; rw [if_neg hw] at h; exact ⟨fun _ _ => trivial, h⟩
theorem any_order {ro : Option Nat} (hdf : ro = none ∨ ops.toList.all noDefer = true) (hn : n < 4 ^ dt) (hon : onceB (dstsOf ops) = true) (hbk : backB ops.toList 0 = true) (hms : ∀ i j, (ms.getD i 0).testBit j = true → ∀ S, Closed ops S → S i → S j)
    (hg : Glo G φ0) (hf : FR φ0 dt n lo t0 a0) (hw0 : WH φ0 B hp0 w0)
    (hQ : ∀ ψ a' w' x', ExR ψ x x' → FR ψ dt n lo t' a' → StH φ0 hp0 w0 ψ hp' w' → WH ψ B hp' w' → Q x' a' w') :
    ∀ (fuel : Nat) (l : Array Bool) (pl : List PI) (val : Nat → AV) (rid : Nat → Option Id) (t : Tr) (hp : HP) (D E : Nat) (a : Act) (w : World) (φ : Id → Option Plc), l.size = ops.size → un ops.size l ≤ fuel →
      RI P G dt n lo ops ms kindM t0 φ0 hp0 w0 a0 B x t' hp' pl val rid t hp D E [] (LA l) a w φ → (pl = [] ∨ ∃ i r o, pl = .run i :: r ∧ ops[i]? = some o ∧ kindM o = .eff) →
      wpAnyIn (Fw ro) 0 P .any ops Q fuel l a w := by
  have done : ∀ (l : Array Bool) (pl : List PI) (val : Nat → AV) (rid : Nat → Option Id) (t : Tr) (hp : HP) (D E : Nat) (a : Act) (w : World) (φ : Id → Option Plc), l.size = ops.size →
      RI P G dt n lo ops ms kindM t0 φ0 hp0 w0 a0 B x t' hp' pl val rid t hp D E [] (LA l) a w φ → (pl = [] ∨ ∃ i r o, pl = .run i :: r ∧ ops[i]? = some o ∧ kindM o = .eff) →
      Region.ready .any ops l = [] → Q .normal a w := by
    intro l pl val rid t hp D E a w φ hls h hpl hrd
    have all : ∀ m i, i < m → i < ops.size → LA l i := by
      intro m
      induction m with
      | zero => intro i hi; omega
      | succ m ih =>
        intro i hi his
        by_cases hl : LA l i
        · exact hl
        · exfalso
          have ho : ops[i]? = some ops[i] := Array.getElem?_eq_getElem his
          have : i ∈ Region.ready .any ops l := (ready_iff hls).2 ⟨_, ho, hl, fun e he hb => by
            have := back_ok hbk ho he hb
            exact ih e.on (by omega) (by omega)⟩
          rw [hrd] at this
          cases this
    have hpl' : pl = [] := by
      rcases hpl with e | ⟨i, r, o, e, ho, hk⟩
      · exact e
      · exfalso
        subst e
        have his := (Array.getElem?_eq_some_iff.1 ho).1
        have hD := h.LD i (all _ i (Nat.lt_succ_self i) his)
        have hpb := h.pb
        unfold planB at hpb
        simp only [ho, Bool.and_eq_true, Bool.not_eq_true'] at hpb
        rw [hD] at hpb
        exact absurd hpb.1.1.1.1 (by simp)
    subst hpl'
    obtain ⟨e1, e2, e3⟩ := h.tr
    subst e1 e2 e3
    refine hQ φ a w .normal rfl ⟨h.sz, hn, fun d hd => ?_, h.tl, ?_⟩ h.st h.wh
    · by_cases hex : ∃ (j : Nat) (o : Oper), ops[j]? = some o ∧ o.dst = some d
      · obtain ⟨j, o, hj, hd'⟩ := hex
        have his := (Array.getElem?_eq_some_iff.1 hj).1
        have hl := all _ j (Nat.lt_succ_self j) his
        cases hlo : lo d with
        | true => rw [h.tl d hd hlo]; exact trivial
        | false => rw [(h.t1 d j o hj hd' (h.LD j hl)).2 hlo]; exact h.i3 j o d hj hl hd'
      · have hno : ∀ (j : Nat) (o : Oper), ops[j]? = some o → o.dst ≠ some d := fun j o hj hd' => hex ⟨j, o, hj, hd'⟩
        rw [h.t2 d (Nat.le_of_lt hd) (fun j p hj _ => hno j p hj), h.i4 d (fun j p hj _ => hno j p hj)]
        exact (hf.at' d hd).more h.st.more
    · rw [h.t2 n (Nat.le_refl n) fun j p hj hb hd => absurd (h.t1 n j p hj hd hb).1 (Nat.lt_irrefl n), h.df]
      exact hf.df.more h.st.more
  intro fuel
  induction fuel with
  | zero =>
    intro l pl val rid t hp D E a w φ hls hun h hpl
    have hrd : Region.ready .any ops l = [] := by
      rw [List.eq_nil_iff_forall_not_mem]
      intro i hi
      obtain ⟨o, ho, hl, _⟩ := (ready_iff hls).1 hi
      have := un_set (m := ops.size) hls (Array.getElem?_eq_some_iff.1 ho).1 hl
      omega
    exact ⟨hrd, done l pl val rid t hp D E a w φ hls h hpl hrd⟩
  | succ fuel ih =>
    intro l pl val rid t hp D E a w φ hls hun h hpl
    refine ⟨done l pl val rid t hp D E a w φ hls h hpl, fun i hi => ?_⟩
    obtain ⟨o, ho, hl, hrd⟩ := (ready_iff hls).1 hi
    have his := (Array.getElem?_eq_some_iff.1 ho).1
    have hun' := un_set (m := ops.size) hls his hl
    have hset : ∀ j, (LA l j ∨ j = i) ↔ LA (l.setIfInBounds i true) j := fun j => (la_set (by omega)).symm
    have hls' : (l.setIfInBounds i true).size = ops.size := by simp [hls]
    have again : ∀ pl1 val1 rid1 t1 hp1 D1 E1 C1 a1 w1 φ1, RI P G dt n lo ops ms kindM t0 φ0 hp0 w0 a0 B x t' hp' pl1 val1 rid1 t1 hp1 D1 E1 C1 (fun j => LA l j ∨ j = i) a1 w1 φ1 → wpAnyIn (Fw ro) 0 P .any ops Q fuel (l.setIfInBounds i true) a1 w1 := by
      intro pl1 val1 rid1 t1 hp1 D1 E1 C1 a1 w1 φ1 h1
      obtain ⟨_, _, _, _, _, _, _, h2, h3⟩ := RI.rest hn hon (RI.set hset h1)
      exact ih _ _ _ _ _ _ _ _ _ _ _ hls' (by omega) h2 h3
    have hanc : ∀ j, (ms.getD i 0).testBit j = true → LA l j ∨ j = i := fun j hj => hms i j hj (fun q => LA l q ∨ q = i) (fun q p hq hs e he hb => by
      rcases hs with hs | hs
      · exact .inl (h.cl q p hq hs e he hb)
      · rw [hs, ho] at hq; cases hq; exact .inl (hrd e he hb)) (.inr rfl)
    have hgφ : Glo G φ := hg.more h.st.more
    cases hD : D.testBit i with
    | true =>
      have hra := RI.rd hms hg hf.at' h ho hl (h.ns i hD) (fun d hd j p hj hp => h.sl i o ho hD d hd j p hj hp) hrd
      have hpe := h.pend i o ho hD hl
      have others : ∀ j p, ops[j]? = some p → D.testBit j = true → ¬ LA l j → j ≠ i → Pend P G dt n ops ms kindM t0 φ hp0.nx val rid hp [] j p := fun j p hj hb hlj _ => h.pend j p hj hb hlj
      have not_wanted : NotW ops o (Ax G dt n ops ms val t0 i) (val i) → wpOpIn (Fw ro) 0 P ops Q i (wpAnyIn (Fw ro) 0 P .any ops Q fuel (l.setIfInBounds i true)) a w := fun hnw => wpOp_of (on := yy.on) hdf ho (by
        rw [if_neg (show ¬ (Region.wanted o (yielded ops a.tmps) = true) from hnw.2 φ a hra)]
        exact again _ _ _ _ _ _ _ _ _ _ _ (h.come hon ho hD hl hrd h.wh h.st (.refl _) (by rw [hnw.1]; exact undefA_ok φ) others))
      have value : ∀ v', Wtd ops o a → (execOp a.eval o).run P w = .ok (.value v') w → VR φ (val i) v' → wpOpIn (Fw ro) 0 P ops Q i (wpAnyIn (Fw ro) 0 P .any ops Q fuel (l.setIfInBounds i true)) a w := fun v' hw hrun hv => wpOp_of (on := yy.on) hdf ho (by
        rw [if_pos (show Region.wanted o (yielded ops a.tmps) = true from hw)]
        refine .inl ?_
        unfold Oper.wp
        rw [hrun]
        exact again _ _ _ _ _ _ _ _ _ _ _ (h.come hon ho hD hl hrd h.wh h.st (.refl _) hv others))
      unfold Pend at hpe
      cases hk : kindM o with
      | pure =>
        rw [hk] at hpe
        rcases hpe with hpe | hpe
        · exact not_wanted hpe
        · obtain ⟨hw, v', hrun, hv⟩ := hpe φ a w hra
          exact value v' hw hrun hv
      | still =>
        rw [hk] at hpe
        rcases hpe with hpe | hpe
        · cases hpe
        · rcases hpe with hpe | hpe
          · exact not_wanted hpe
          · obtain ⟨hw, v', hrun, hv⟩ := hpe φ a w hgφ hra (WR.rw h.wh)
            exact value v' hw hrun hv
      | make =>
        rw [hk] at hpe
        rcases hpe with hpe | ⟨r, y, q1, q2, q3, q4, q5, hpe⟩
        · exact not_wanted hpe
        · obtain ⟨hw, v', ob, K, w', hrun, hN, hsay, hv⟩ := hpe φ a w hgφ hra
          have hwh : WR φ B _ _ w := h.wh
          have hw' := WR.fill hwh q2 q3 q4 hN hsay
          have hs' := Step.fill (K := K) hw0 h.st q4 q5 hN
          have hm := ext_more (w.heap.size, K) q4
          refine wpOp_of (on := yy.on) hdf ho ?_
          rw [if_pos (show Region.wanted o (yielded ops a.tmps) = true from hw)]
          refine .inl ?_
          unfold Oper.wp
          rw [hrun]
          refine again _ _ _ _ _ _ _ _ _ _ _ (h.come hon ho hD hl hrd hw' hs' hm (hv _ hm (ext_same φ r _)) fun j p hj hb hlj hji => ?_)
          have hpj := h.pend j p hj hb hlj
          unfold Pend at hpj ⊢
          cases hkj : kindM p with
          | pure => rw [hkj] at hpj; exact hpj
          | still => rw [hkj] at hpj; exact hpj
          | eff => rw [hkj] at hpj; exact hpj
          | make =>
            rw [hkj] at hpj
            rcases hpj with hpj | ⟨r', y', s1, s2, s3, s4, s5, hpj⟩
            · exact .inl hpj
            · exact .inr ⟨r', y', s1, s2, s3, (ext_other φ _ (fun e => hji (by subst e; exact h.rin j i r' s1 q1))).trans s4, s5, hpj⟩
      | eff => rw [hk] at hpe; exact hpe.elim
    | false =>
      rcases hpl with e | ⟨i0, pl1, o0, e, ho0, hk0⟩
      · subst e
        have := h.pb
        have := List.all_eq_true.1 (show ((List.range ops.size).all fun j => D.testBit j) = true from this) i (List.mem_range.2 his)
        rw [hD] at this
        cases this
      · subst e
        have hpb := h.pb
        unfold planB at hpb
        simp only [ho0, Bool.and_eq_true, Bool.not_eq_true'] at hpb
        obtain ⟨⟨⟨⟨h1, h2⟩, h3⟩, h4⟩, h5⟩ := hpb
        have h5' : planB ops ms kindM pl1 (Nat.lor D (bitOf i0)) (Nat.lor E (bitOf i0)) (due ms kindM i0 D ops.toList 0) = true := by rw [hk0] at h5; exact h5
        have hii : i = i0 := by
          by_cases e : i = i0
          · exact e
          · exfalso
            have hD' : (Nat.lor D (bitOf i0)).testBit i = false := by
              rw [Bool.eq_false_iff]
              intro hc
              rcases bit_or.1 hc with hc | hc
              · rw [hD] at hc; cases hc
              · exact e hc
            have := planB_later h5' his hD' i0 (bit_or.2 (.inr rfl))
            rcases hanc i0 this with hl0 | hl0
            · have := h.LD i0 hl0
              rw [h1] at this
              cases this
            · exact e hl0.symm
        subst hii
        rw [ho] at ho0
        cases ho0
        have selfN : (ms.getD i 0).testBit i = false := by
          rw [Bool.eq_false_iff]
          intro hc
          have := subB_ok h2 hc
          rw [h1] at this
          cases this
        have hsl : ∀ d ∈ reads ops o, ∀ j p, ops[j]? = some p → p.dst = some d → j = i ∨ (ms.getD i 0).testBit j = true ∨ (ms.getD j 0).testBit i = true := fun d hd j p hj hp => by
          rcases slotsB_ok h4 hd hj hp with e | e | ⟨e, _⟩
          · exact .inl e
          · exact .inr (.inl e)
          · exact .inr (.inr e)
        have hra := RI.rd hms hg hf.at' h ho hl selfN hsl hrd
        obtain ⟨o', ho', hdl, htr⟩ := h.tr
        rw [ho] at ho'
        cases ho'
        rw [hk0] at htr
        rcases htr with ⟨v, hp1, f1, f2⟩ | ⟨v, hp1, f1, e1, e2, e3⟩
        · refine wpOp_of (on := yy.on) hdf ho (f1 φ B a w hgφ hra h.wh _ _ fun v' w' ⟨ψ, hv, hs, hw'⟩ => ?_)
          have mono : ∀ q, subB q D = true → subB q (Nat.lor D (bitOf i)) = true := by
            intro q hq
            have e : q &&& (D ||| bitOf i) = q := by
              apply Nat.eq_of_testBit_eq
              intro b
              rw [Nat.testBit_and, Nat.testBit_or]
              cases hb : q.testBit b with
              | false => rfl
              | true => rw [subB_ok hq hb]; rfl
            show Nat.beq (q &&& (D ||| bitOf i)) q = true
            rw [e, Nat.beq_refl]
          have old : ∀ j, D.testBit j = true → upd val i v j = val j := fun j hj => upd_other fun e => by subst e; rw [h1] at hj; cases hj
          have ax : ∀ j, D.testBit j = true → Ax G dt n ops ms (upd val i v) t0 j = Ax G dt n ops ms val t0 j := fun j hj => Ax_upd h1 (h.Dc j hj)
          obtain ⟨g1, g2, g3, g4⟩ := put_frame (val := upd val i v) (a0 := a0) (φ := ψ) hon ho hl (fun d hd => by rw [h.sz]; exact hdl d hd) (fun j p d hj hlj hd => by rw [old j (h.LD j hlj)]; exact (h.i3 j p d hj hlj hd).more hs.more) h.i4 (v' := v') (by rw [upd_same]; exact hv)
          refine again pl1 (upd val i v) rid (putT dt lo t o.dst v) hp1 (Nat.lor D (bitOf i)) (Nat.lor E (bitOf i)) (due ms kindM i D ops.toList 0) _ w' ψ
            ⟨f2, h5', fun j hj => ?_, fun j p hj hkj hb => ?_, fun j p hj hs' e he hb => ?_, fun j hb => ?_, fun j hb => ?_, hw', h.st.trans hs, g3.trans h.sz, g4.trans h.df, g1, g2, fun d hdn hlo => ?_, fun d j p hj hd hb => ?_, fun d hdn hno => ?_, fun j p hj hb d hd q qo hq hqd => ?_, fun j p hj hb hlj => ?_, h.rin, fun j r hr => ?_, fun j hb => ?_⟩
          · rcases hj with hj | rfl
            · exact bit_or.2 (.inl (h.LD j hj))
            · exact bit_or.2 (.inr rfl)
          · rcases bit_or.1 hb with hb | rfl
            · exact .inl (h.EL j p hj hkj hb)
            · exact .inr rfl
          · rcases hs' with hs' | rfl
            · exact .inl (h.cl j p hj hs' e he hb)
            · rw [ho] at hj; cases hj; exact .inl (hrd e he hb)
          · rcases bit_or.1 hb with hb | rfl
            · exact mono _ (h.Dc j hb)
            · exact mono _ h2
          · rcases bit_or.1 hb with hb | rfl
            · exact h.ns j hb
            · exact selfN
          · cases hds : o.dst with
            | none => exact h.tl d hdn hlo
            | some d' =>
              have hne : lo d' = true ∨ (some d' : Option Nat) ≠ some d := by
                cases hl' : lo d' with
                | true => exact .inl rfl
                | false => exact .inr fun e => by cases e; rw [hlo] at hl'; cases hl'
              rcases hne with hl' | hne
              · show getT (path dt d) (if lo d' then t else t.set (path dt d') v) = .u
                rw [if_pos hl']
                exact h.tl d hdn hlo
              · rw [getT_putT hn (Nat.le_of_lt hdn) (fun d'' e => hdl d'' (by rw [hds]; exact e)) hne]
                exact h.tl d hdn hlo
          · rcases bit_or.1 hb with hb | rfl
            · obtain ⟨q1, q2⟩ := h.t1 d j p hj hd hb
              refine ⟨q1, fun hlo => ?_⟩
              have hne : o.dst ≠ some d := fun e => by have := once_ok hon ho hj e hd; subst this; rw [h1] at hb; cases hb
              rw [getT_putT hn (Nat.le_of_lt q1) hdl hne, old j hb]
              exact q2 hlo
            · rw [ho] at hj
              cases hj
              have hdn := hdl d hd
              refine ⟨hdn, fun hlo => ?_⟩
              rw [hd, upd_same]
              show getT (path dt d) (if lo d then t else t.set (path dt d) v) = v
              rw [hlo]
              simp only [Bool.false_eq_true, if_false]
              rw [getT_get, T4.get_set_same]
              rfl
          · have hne : o.dst ≠ some d := hno i o ho (bit_or.2 (.inr rfl))
            rw [getT_putT hn hdn hdl hne]
            exact h.t2 d hdn fun j p hj hb => hno j p hj (bit_or.2 (.inl hb))
          · rcases bit_or.1 hb with hb | rfl
            · exact h.sl j p hj hb d hd q qo hq hqd
            · rw [ho] at hj; cases hj; exact hsl d hd q qo hq hqd
          · rcases bit_or.1 hb with hb | rfl
            · have hpj := h.pend j p hj hb (fun hc => hlj (.inl hc))
              unfold Pend at hpj ⊢
              rw [ax j hb, old j hb]
              cases hkj : kindM p with
              | pure => rw [hkj] at hpj; exact hpj
              | eff => rw [hkj] at hpj; exact hpj
              | still =>
                left
                have hnot : (ms.getD i 0).testBit j = false := by
                  rw [Bool.eq_false_iff]
                  exact fun hc => hlj (hanc j hc)
                have := due_ok (ms := ms) (kindM := kindM) (i := i) (D := D) (l := ops.toList) (j0 := 0) (j := j) (o := p) (by rw [Array.getElem?_toList]; exact hj) (by rw [Nat.zero_add]; exact hb) hkj (by rw [Nat.zero_add]; exact hnot)
                rw [Nat.zero_add] at this
                exact this
              | make =>
                rw [hkj] at hpj
                rcases hpj with hpj | ⟨r', y', s1, s2, s3, s4, s5, hpj⟩
                · exact .inl hpj
                · obtain ⟨u1, u2⟩ := hs.ghost r' y' s2 s4
                  exact .inr ⟨r', y', s1, u1, s3, u2, s5, hpj⟩
            · exact absurd (.inr rfl) hlj
          · exact Nat.lt_of_lt_of_le (h.rlt j r hr) hs.next
          · refine h.rno j ?_
            rw [Bool.eq_false_iff] at hb ⊢
            exact fun hc => hb (bit_or.2 (.inl hc))
        · refine wpOp_of (on := yy.on) hdf ho (f1 φ B a w hgφ hra h.wh _ _ fun v' w' ⟨ψ, hv, hs, hw'⟩ => ?_)
          subst e1 e2 e3
          refine hQ ψ a w' _ ⟨v', rfl, hv⟩ ⟨h.sz, hn, fun d hd => ?_, fun d hd hlo => ?_, ?_⟩ (h.st.trans hs) hw'
          · rcases wipe_get (l := ops.toList) (t := t) hn (Nat.le_of_lt hd) h.tl with e | ⟨e, hno⟩
            · rw [e]; exact trivial
            · rw [e]
              cases hlo : lo d with
              | true => rw [h.tl d hd hlo]; exact trivial
              | false =>
                have hno' : ∀ (j : Nat) (p : Oper), ops[j]? = some p → p.dst ≠ some d := fun j p hj hp => by
                  have := hno p (List.mem_of_getElem? (by rw [Array.getElem?_toList]; exact hj)) hp hd
                  rw [hlo] at this
                  cases this
                rw [h.t2 d (Nat.le_of_lt hd) (fun j p hj _ => hno' j p hj), h.i4 d (fun j p hj _ => hno' j p hj)]
                exact (hf.at' d hd).more (h.st.more.trans hs.more)
          · rcases wipe_get (l := ops.toList) (t := t) hn (Nat.le_of_lt hd) h.tl with e | ⟨e, _⟩
            · exact e
            · exact e.trans (h.tl d hd hlo)
          · have hdst : ∀ (d : Nat), d = n → (∀ (j : Nat) (p : Oper), ops[j]? = some p → D.testBit j = true → p.dst ≠ some d) := fun d e j p hj hb hp => by subst e; exact Nat.lt_irrefl _ (h.t1 _ j p hj hp hb).1
            rw [wipe_n hn, h.t2 n (Nat.le_refl n) (hdst n rfl), h.df]
            exact hf.df.more (h.st.more.trans hs.more)
noncomputable def regM (G dt n : Nat) (lo : Nat → Bool) (opM : OpM) (kindM : Oper → Kd) (ops : Array Oper) : Option RM :=
  let ms := masks ops.toList []
  let pl := mkPlan ops ms kindM ops.size 0
  match planB ops ms kindM pl 0 0 [], onceB (dstsOf ops), backB ops.toList 0, Nat.blt n (4 ^ dt) with
  | true, true, true, true => some (planM G dt n lo opM ops kindM pl [])
  | _, _, _, _ => none
theorem regM_ok {opM : OpM} {kindM : Oper → Kd} (hmix : P.follows .mixedOrders = true) (hop : ∀ ds o q, opM ds o = some q → OmOk P G dt n ds o q) {id : Nat} {ops : Array Oper} {m : RM} (h : regM G dt n lo opM kindM ops = some m) : RgOk P G dt n lo id ops m := by
  have h' : (match planB ops (masks ops.toList []) kindM (mkPlan ops (masks ops.toList []) kindM ops.size 0) 0 0 [], onceB (dstsOf ops), backB ops.toList 0, Nat.blt n (4 ^ dt) with
    | true, true, true, true => some (planM G dt n lo opM ops kindM (mkPlan ops (masks ops.toList []) kindM ops.size 0) [])
    | _, _, _, _ => none) = some m := h
  split at h'
  · rename_i hpb hon hbk hcap
    cases h'
    intro hd hok t hp k r hr
    have hn : n < 4 ^ dt := by simpa [Nat.blt_eq] using hcap
    · have z : ∀ i, (0 : Nat).testBit i = true → False := fun i h => by simp at h
      obtain ⟨x, t', hp', h1, h2⟩ := trace_of (t0 := t) (val := fun _ => .u) (rid := fun _ => none) (Nat.le_of_lt hn) hon hop hok _ [] [] t hp 0 0 [] k r hpb ⟨(fun d j' h => by cases h), fun j o d _ h => (z _ h).elim, fun d _ _ => rfl⟩ (fun c hc => by cases hc) (fun i h => (z i h).elim) hr
      refine ⟨x, t', hp', h1, fun φ B a w g1 g2 g3 Q hQ ro hdf => wpIn_region_any hmix ?_⟩
      obtain ⟨hw1, hs1⟩ := WR.drew g3
      have hun : ∀ l : Array Bool, un ops.size l ≤ ops.size := fun l => by
        unfold un
        refine Nat.le_trans (List.length_filter_le _ _) ?_
        simp
      have hLA : ∀ i, ¬ LA (Array.replicate ops.size false) i := fun i h => by
        unfold LA at h
        rw [Array.getD_eq_getD_getElem?, Array.getElem?_replicate] at h
        split at h <;> simp at h
      have h0 : RI P G dt n lo ops (masks ops.toList []) kindM t φ hp w.drew a B x t' hp' (mkPlan ops (masks ops.toList []) kindM ops.size 0) (fun _ => .u) (fun _ => none) t hp 0 0 [] (LA (Array.replicate ops.size false)) a w.drew φ :=
        ⟨h2, hpb, fun i h => (hLA i h).elim, fun i o _ _ h => (z i h).elim, fun i o _ h => (hLA i h).elim, fun i h => (z i h).elim, fun i h => (z i h).elim, hw1, Step.refl, g2.sz, rfl, fun i o d _ h => (hLA i h).elim, fun d _ => rfl, g2.lo, fun d j o _ _ h => (z j h).elim, fun d _ _ => rfl, fun i o _ h => (z i h).elim, fun i o _ h => (z i h).elim, (fun i j r h => by cases h), (fun i r h => by cases h), fun i _ => rfl⟩
      obtain ⟨_, _, _, _, _, _, _, h3, h4⟩ := RI.rest hn hon h0
      exact any_order hdf hn hon hbk (fun i j hj S hS hi => anc_ok hj hS hi) g1 g2 hw1 (fun ψ a' w' x' f0 f1 f2 f3 => hQ ψ a' w' x' f0 f1 (hs1.trans f2) f3) ops.size _ _ _ _ _ _ _ _ _ _ _ (by simp) (hun _) h3 h4
  · cases h'
end
end Go.Proofs.YtknjkljigmepjaaGreatDoor.Clo
end
section
namespace Go.Proofs.YtknjkljigmepjaaGreatDoor.Clo
open Go.RowKit
set_option linter.unusedVariables false
set_option linter.unusedSimpArgs false
set_option linter.constructorNameAsVariable false
variable [Tabs]
def isStr (P : Program) (t : TypeId) : Bool := match P.underlying t with | some .string => true | _ => false
theorem isStr_is {P : Program} {t : TypeId} (h : isStr P t = true) : P.underlying t = some .string := by
  unfold isStr at h
  split at h
  · assumption
  · cases h
def twoB (P : Program) (k : TypeId) (f0 f1 : Field) : Bool :=
  (f0.offset == 0) && ((f1.offset == 1) && (isStr P f0.type && (isStr P f1.type && ((P.cellsOf k == 2) && ((P.cellsOf f0.type == 1) && ((P.cellsOf f1.type == 1) && (P.keyTypeAt 2 k && (P.tiled 2 k && (P.keyType k && ((f0.name != "_") && (f1.name != "_")))))))))))
theorem two_law {P : Program} {k : TypeId} {f0 f1 : Field} (hk : P.underlying k = some (.struct #[f0, f1])) (h : twoB P k f0 f1 = true) : WideMaps.KeyLaw P k := by
  unfold twoB at h
  simp only [Bool.and_eq_true] at h
  obtain ⟨_, _, _, _, _, _, _, h8, h9, _⟩ := h
  exact deep_law (m := 2) (by omega) h8 h9 (by rw [hk])
theorem two_key {P : Program} {k : TypeId} {f0 f1 : Field} (hk : P.underlying k = some (.struct #[f0, f1])) (h : twoB P k f0 f1 = true) (a b : ByteArray) (ha : a.size ≤ maxLen) (hb : b.size ≤ maxLen) : ∃ l, keyOf P k (.agg #[.string a, .string b]) = some l := by
  unfold twoB at h
  simp only [Bool.and_eq_true, beq_iff_eq, bne_iff_ne] at h
  obtain ⟨o0, o1, s0, s1, c, c0, c1, _, _, hkt, n0, n1⟩ := h
  have s0 := isStr_is s0
  have s1 := isStr_is s1
  have hpos : ∃ m, P.types.size = m + 1 := by
    unfold Program.keyType at hkt
    cases hm : P.types.size with
    | zero =>
      rw [hm] at hkt
      unfold Program.keyTypeAt at hkt
      rw [hk] at hkt
      simp [Program.keyTypeAt] at hkt
    | succ m => exact ⟨m, rfl⟩
  obtain ⟨m, hm⟩ := hpos
  have hf : (Value.agg #[.string a, .string b]).formed P k = true := by
    unfold Value.formed
    rw [hk, c]
    rfl
  have e0 : P.keyLits (m + 1) f0.type [.string a] = some [.string a.data.toList] := by
    unfold Program.keyLits
    rw [s0]
    simp [ha]
  have e1 : P.keyLits (m + 1) f1.type [.string b] = some [.string b.data.toList] := by
    unfold Program.keyLits
    rw [s1]
    simp [hb]
  have hl : P.keyLits (m + 1 + 1) k [.string a, .string b] = some [.string a.data.toList, .string b.data.toList] := by
    unfold Program.keyLits
    rw [hk]
    simp [c, n0, n1, o0, o1, c0, c1, e0, e1]
  unfold keyOf
  rw [hk]
  simp only [hkt, hf, Bool.and_self, if_true, hm]
  have hc : (Value.agg #[.string a, .string b]).cells.toList = [.string a, .string b] := rfl
  rw [hc, hl]
  exact ⟨_, rfl⟩
noncomputable def keyTw : AV → AV → Option Bool
  | .ag (.cons (.s a) (.cons (.s b) .nil)), .ag (.cons (.s c) (.cons (.s d) .nil)) => some (eqL a c && eqL b d)
  | _, _ => none
noncomputable def keyOk2 : AV → Bool
  | .ag (.cons (.s a) (.cons (.s b) .nil)) => Nat.ble (lenL a) 1000000 && Nat.ble (lenL b) 1000000
  | _ => false
theorem keyOk2_is {P : Program} {k : TypeId} {f0 f1 : Field} (hk : P.underlying k = some (.struct #[f0, f1])) (h : twoB P k f0 f1 = true) {key : AV} (ho : keyOk2 key = true) {φ : Id → Option Plc} {kv : Value} (hv : VR φ key kv) : ∃ l, keyOf P k kv = some l := by
  unfold keyOk2 at ho
  split at ho
  · rename_i a b
    simp only [Bool.and_eq_true] at ho
    obtain ⟨q1, q2⟩ := ho
    have q1 := Nat.le_of_ble_eq_true q1
    have q2 := Nat.le_of_ble_eq_true q2
    obtain ⟨xs, e, v, vs, e1, ⟨e2, _⟩, v', vs', e3, ⟨e4, _⟩, e5⟩ := hv
    subst e5 e3 e2 e4
    have hx : xs = #[.string (bytesOf a), .string (bytesOf b)] := by cases xs; simp_all
    rw [e, hx]
    have z1 : (bytesOf a).size = lenL a := by rw [bytes_size, lenL_eq]
    have z2 : (bytesOf b).size = lenL b := by rw [bytes_size, lenL_eq]
    exact two_key hk h _ _ (by rw [z1]; unfold maxLen; omega) (by rw [z2]; unfold maxLen; omega)
  · cases ho
theorem keyTw_ok {key x : AV} {b : Bool} (he : keyTw key x = some b) {φ : Id → Option Plc} {kv xv : Value} (h1 : VR φ key kv) (h2 : VR φ x xv) : b = true ↔ xv = kv := by
  unfold keyTw at he
  split at he
  · rename_i a1 b1 a2 b2
    simp only [Option.some.injEq] at he
    obtain ⟨xs, e, v, vs, f1, ⟨f2, g1⟩, v', vs', f3, ⟨f4, g2⟩, f5⟩ := h1
    obtain ⟨ys, e', u, us, p1, ⟨p2, g3⟩, u', us', p3, ⟨p4, g4⟩, p5⟩ := h2
    subst f5 f3 f2 f4 p5 p3 p2 p4
    have hx : xs = #[.string (bytesOf a1), .string (bytesOf b1)] := by cases xs; simp_all
    have hy : ys = #[.string (bytesOf a2), .string (bytesOf b2)] := by cases ys; simp_all
    rw [e, e', hx, hy, ← he]
    simp only [Bool.and_eq_true, eqL_iff]
    constructor
    · rintro ⟨rfl, rfl⟩; rfl
    · intro h
      simp only [Value.agg.injEq, Array.mk.injEq, List.cons.injEq, Value.string.injEq, and_true] at h
      exact ⟨(bytes_inj g3 g1 h.1).symm, (bytes_inj g4 g2 h.2).symm⟩
  · cases he
noncomputable def noneTw (key : AV) : AV → R → R
  | .nil, k => k
  | .cons (.cons x v) r, k => match keyOk2 x, keyTw key x with
    | true, some false => noneTw key r k
    | _, _ => none
  | _, _ => none
noncomputable def findTw (key : AV) : AV → Nat → (Option (Nat × AV) → R) → R
  | .nil, _, k => k none
  | .cons (.cons x v) r, j, k => match keyOk2 x, keyTw key x with
    | true, some true => noneTw key r (k (some (j, v)))
    | true, some false => findTw key r (j + 1) k
    | _, _ => none
  | _, _, _ => none
theorem noneTw_some {P : Program} {kt : TypeId} {f0 f1 : Field} (hk : P.underlying kt = some (.struct #[f0, f1])) (ht : twoB P kt f0 f1 = true) {key : AV} {k : R} {x : AV × HP} : ∀ {l : AV}, noneTw key l k = some x → k = some x ∧ ∀ φ es kv, VR φ key kv → ents φ l es → ∀ e ∈ es, (∃ q, keyOf P kt e.key = some q) ∧ e.key ≠ kv := by
  intro l h
  fun_induction noneTw key l k with
  | case1 k => exact ⟨h, fun φ es kv _ he e hm => by have : es = [] := he; subst this; cases hm⟩
  | case2 y v r k h2 h1 ih =>
    obtain ⟨h3, h4⟩ := ih h
    refine ⟨h3, fun φ es kv hv he e hm => ?_⟩
    obtain ⟨e0, es', e1, e2, e3, e4⟩ := he
    subst e1
    rcases List.mem_cons.1 hm with rfl | hm
    · exact ⟨keyOk2_is hk ht h1 e2, fun hh => by have := (keyTw_ok h2 hv e2).2 hh; cases this⟩
    · exact h4 φ es' kv hv e4 e hm
  | case3 => cases h
  | case4 => cases h
theorem findTw_some {P : Program} {kt : TypeId} {f0 f1 : Field} (hk : P.underlying kt = some (.struct #[f0, f1])) (ht : twoB P kt f0 f1 = true) {key : AV} : ∀ {l : AV} {j0 : Nat} {k : Option (Nat × AV) → R} {x : AV × HP}, findTw key l j0 k = some x → ∃ a, k a = some x ∧ ∀ φ es kv, VR φ key kv → ents φ l es →
    (∀ e ∈ es, ∃ q, keyOf P kt e.key = some q) ∧ ((a = none ∧ ∀ e ∈ es, e.key ≠ kv) ∨ ∃ j v e, a = some (j0 + j, v) ∧ es[j]? = some e ∧ e.key = kv ∧ VR φ v e.val ∧ ∀ i e', es[i]? = some e' → e'.key = kv → i = j) := by
  intro l j0 k x h
  fun_induction findTw key l j0 k with
  | case1 j k => exact ⟨none, h, fun φ es kv hv he => by have : es = [] := he; subst this; exact ⟨fun e hm => (by cases hm), .inl ⟨rfl, fun e hm => by cases hm⟩⟩⟩
  | case2 y v r j k h2 h1 =>
    obtain ⟨h3, h4⟩ := noneTw_some hk ht h
    refine ⟨_, h3, fun φ es kv hv he => ?_⟩
    obtain ⟨e0, es', e1, e2, e3, e4⟩ := he
    subst e1
    have hk0 := (keyTw_ok h2 hv e2).1 rfl
    refine ⟨fun e hm => ?_, .inr ⟨0, v, e0, rfl, rfl, hk0, e3, fun i e' hi hke => ?_⟩⟩
    · rcases List.mem_cons.1 hm with rfl | hm
      · exact keyOk2_is hk ht h1 e2
      · exact (h4 φ es' kv hv e4 e hm).1
    · cases i with
      | zero => rfl
      | succ i =>
        rw [List.getElem?_cons_succ] at hi
        exact absurd hke (h4 φ es' kv hv e4 e' (List.mem_of_getElem? hi)).2
  | case3 y v r j k h2 h1 ih =>
    obtain ⟨a, h3, h4⟩ := ih h
    refine ⟨a, h3, fun φ es kv hv he => ?_⟩
    obtain ⟨e0, es', e1, e2, e3, e4⟩ := he
    subst e1
    have hne : e0.key ≠ kv := fun hh => by have := (keyTw_ok h2 hv e2).2 hh; cases this
    obtain ⟨g1, g2⟩ := h4 φ es' kv hv e4
    refine ⟨fun e hm => ?_, ?_⟩
    · rcases List.mem_cons.1 hm with rfl | hm
      · exact keyOk2_is hk ht h1 e2
      · exact g1 e hm
    · rcases g2 with ⟨q1, q2⟩ | ⟨j', v', e', q1, q2, q3, q4, q5⟩
      · refine .inl ⟨q1, fun e hm => ?_⟩
        rcases List.mem_cons.1 hm with rfl | hm
        · exact hne
        · exact q2 e hm
      · refine .inr ⟨j' + 1, v', e', by rw [q1]; congr 2; omega, by simpa using q2, q3, q4, fun i e'' hi hke => ?_⟩
        cases i with
        | zero => simp at hi; subst hi; exact absurd hke hne
        | succ i => rw [q5 i e'' (by simpa using hi) hke]
  | case4 => cases h
  | case5 => cases h
noncomputable def lookF2 (z : Value) (ok : Bool) (key a : AV) (hp : HP) (k : KV) : R := match keyOk2 key with
  | false => none
  | true => match a with
    | .mn => finF z ok hp k none
    | .mp r => hp.on fun mem _ => onTab mem r fun l => findTw key l 0 (finF z ok hp k)
    | _ => none
noncomputable def updF2 (key v a : AV) (hp : HP) (k : KV) : R := match keyOk2 key with
  | false => none
  | true => a.on_mp fun r => hp.on fun mem nx => onTab mem r fun l => findTw key l 0 fun q => match q with
    | none => k undefA (.mk (mem.set r (.tab (l.app (.cons (.cons key v) .nil)))) nx)
    | some (j, _) => k undefA (.mk (mem.set r (.tab (setVal v j l))) nx)
theorem found2 {P : Program} {kt : TypeId} {f0 f1 : Field} (hk : P.underlying kt = some (.struct #[f0, f1])) (ht : twoB P kt f0 f1 = true) {a : Option (Nat × AV)} {φ : Id → Option Plc} {es : List MapEntry} {kv : Value} {lk : Lit} (hkv : keyOf P kt kv = some lk)
    (h : (∀ e ∈ es, ∃ q, keyOf P kt e.key = some q) ∧ ((a = none ∧ ∀ e ∈ es, e.key ≠ kv) ∨ ∃ j v e, a = some (0 + j, v) ∧ es[j]? = some e ∧ e.key = kv ∧ VR φ v e.val ∧ ∀ i e', es[i]? = some e' → e'.key = kv → i = j)) (w : World) :
    (a = none ∧ (Instr.findKey kt kv es).run P w = .ok none w) ∨ ∃ j v e, a = some (j, v) ∧ es[j]? = some e ∧ e.key = kv ∧ VR φ v e.val ∧ (Instr.findKey kt kv es).run P w = .ok (some (j, e.val)) w := by
  obtain ⟨h0, h1⟩ := h
  have L := (two_law hk ht).find w hkv es h0
  rcases h1 with ⟨h1, h2⟩ | ⟨j, v, e, h1, h2, h3, h4, h5⟩
  · rcases L with ⟨q1, _⟩ | ⟨j', e', _, q2, q3⟩
    · exact .inl ⟨h1, q1⟩
    · exact absurd q3 (h2 e' (List.mem_of_getElem? q2))
  · rw [Nat.zero_add] at h1
    rcases L with ⟨_, q1⟩ | ⟨j', e', q1, q2, q3⟩
    · exact absurd h3 (q1 e (List.mem_of_getElem? h2))
    · have := h5 j' e' q2 q3
      subst this
      rw [h2] at q2
      cases q2
      exact .inr ⟨_, v, e, h1, h2, h3, h4, q1⟩
section
variable {P : Program} {G dt n : Nat} {ds : List (Option Nat)} {o : Oper}
theorem lookup2_ok {mT kt el : TypeId} {x y : Operand} {ok : Bool} {i : TypeInfo} {z : Value} {f0 f1 : Field} (ho : o.op = .lookup mT x y ok) (hu : P.underlying mT = some (.map kt el)) (hk : P.underlying kt = some (.struct #[f0, f1])) (ht : twoB P kt f0 f1 = true) (hi : P.info? el = some i) (hz : i.zero = some z) :
    StillOk P G dt n ds o (fun e t0 hp k => lookF2 z ok ((opd G dt n ds y).run e t0) ((opd G dt n ds x).run e t0) hp k) :=
  fun e t0 hp k r hr => by
    have h1 : lookF2 z ok ((opd G dt n ds y).run e t0) ((opd G dt n ds x).run e t0) hp k = some r := hr
    unfold lookF2 at h1
    split at h1
    · cases h1
    rename_i hko
    have run : ∀ (w : World) (es : List MapEntry) (m key : Value) (q : Option (Nat × Value)) (lk : Lit), keyOf P kt key = some lk → ((m = .map none ∧ es = []) ∨ ∃ g arr c, m = .map (some g) ∧ w.heap[g]? = some (.map arr c) ∧ arr.toList = es) → (Instr.findKey kt key es).run P w = .ok q w →
        (Instr.lookup mT m key ok).run P w = .ok (finV z ok q) w := by
      intro w es m key q lk hkey hm hf
      have hc : ∀ e, (Instr.checkKey e 10000 kt key).run P w = .ok () w := fun e => (two_law hk ht).check w e hkey
      rcases hm with ⟨rfl, rfl⟩ | ⟨g, arr, c, rfl, hg, rfl⟩
      · cases ok <;> rcases q with _ | ⟨j, v⟩ <;> simp [Instr.lookup, run_underlying hu, hc, hf, zeroValue, typeInfo, hi, hz, finV]
      · cases ok <;> rcases q with _ | ⟨j, v⟩ <;> simp [Instr.lookup, run_underlying hu, getObj, Sem.run, hg, hc, hf, zeroValue, typeInfo, hi, hz, finV]
    have fin : ∀ q : Option (Nat × AV), finF z ok hp k q = some r → ∃ v, k v hp = some r ∧ ∀ φ (p : Option (Nat × Value)), ((q = none ∧ p = none) ∨ ∃ j j' u w, q = some (j', u) ∧ p = some (j, w) ∧ VR φ u w) → VR φ v (finV z ok p) := by
      intro q hq
      cases ok <;> rcases q with _ | ⟨j', u⟩
      · refine ⟨_, hq, fun φ p hp => ?_⟩
        rcases hp with ⟨_, rfl⟩ | ⟨j, j', u, w, h, _⟩
        · exact ofConst_ok φ z
        · cases h
      · refine ⟨_, hq, fun φ p hp => ?_⟩
        rcases hp with ⟨h, _⟩ | ⟨j, j', u, w, h, rfl, hv⟩
        · cases h
        · cases h; exact hv
      · refine ⟨_, hq, fun φ p hp => ?_⟩
        rcases hp with ⟨_, rfl⟩ | ⟨j, j', u, w, h, _⟩
        · exact ⟨_, rfl, _, _, rfl, ofConst_ok φ z, _, _, rfl, rfl, rfl⟩
        · cases h
      · refine ⟨_, hq, fun φ p hp => ?_⟩
        rcases hp with ⟨h, _⟩ | ⟨j, j', u, w, h, rfl, hv⟩
        · cases h
        · cases h; exact ⟨_, rfl, _, _, rfl, hv, _, _, rfl, rfl, rfl⟩
    have wrap : ∀ (a : Act) (w : World) (v' : Value), (Instr.lookup mT (a.eval x) (a.eval y) ok).run P w = .ok v' w → (execOp a.eval o).run P w = .ok (.value v') w := by
      intro a w v' h
      unfold execOp
      simp only [ho, Sem.run_bind, h, Result.andThen_ok]
      rfl
    split at h1
    · rename_i hm
      obtain ⟨v, h2, h3⟩ := fin none h1
      refine ⟨v, h2, fun φ a w _ hx hw => ?_⟩
      have e1 : a.eval x = .map none := by have := hx x (by rw [ho]; simp [Op.operands]); rw [hm] at this; exact this
      obtain ⟨lk, hkey⟩ := keyOk2_is hk ht hko (hx y (by rw [ho]; simp [Op.operands]))
      have hf : (Instr.findKey kt (a.eval y) []).run P w = .ok none w := by
        rcases (two_law hk ht).find w hkey [] (fun e he => by cases he) with ⟨h, _⟩ | ⟨j, e', _, h, _⟩
        · exact h
        · simp at h
      exact ⟨_, wrap a w _ (run w [] (a.eval x) _ none lk hkey (.inl ⟨e1, rfl⟩) hf), h3 φ none (.inl ⟨rfl, rfl⟩)⟩
    · rename_i r0 hm
      cases hp with
      | mk mem nx =>
      obtain ⟨l, hl, h2⟩ := onTab_some (show onTab mem r0 _ = some r from h1)
      obtain ⟨q, h3, h4⟩ := findTw_some hk ht h2
      obtain ⟨v, h5, h6⟩ := fin q h3
      refine ⟨v, h5, fun φ a w _ hx hw => ?_⟩
      obtain ⟨g, hg, e1⟩ : ∃ g, φ r0 = some g ∧ a.eval x = .map (some g.1) := by have := hx x (by rw [ho]; simp [Op.operands]); rw [hm] at this; exact this
      have hky := hx y (by rw [ho]; simp [Op.operands])
      obtain ⟨lk, hkey⟩ := keyOk2_is hk ht hko hky
      obtain ⟨ob, h7, es, c, h8, h9⟩ := (show RW φ mem w from hw).blk r0 _ g hl hg
      subst h8
      rcases found2 hk ht hkey (h4 φ es.toList _ hky h9) w with ⟨hq, hf⟩ | ⟨j, u, e', hq, _, _, hv, hf⟩
      · exact ⟨_, wrap a w _ (run w es.toList (a.eval x) _ _ lk hkey (.inr ⟨g.1, es, c, e1, h7, rfl⟩) hf), h6 φ _ (.inl ⟨hq, rfl⟩)⟩
      · exact ⟨_, wrap a w _ (run w es.toList (a.eval x) _ _ lk hkey (.inr ⟨g.1, es, c, e1, h7, rfl⟩) hf), h6 φ _ (.inr ⟨_, _, u, _, hq, rfl, hv⟩)⟩
    · cases h1
theorem update2_ok {mT kt el : TypeId} {x y u : Operand} {f0 f1 : Field} (ho : o.op = .mapUpdate mT x y u ∨ o.op = .insert mT x y u) (hu : P.underlying mT = some (.map kt el)) (hk : P.underlying kt = some (.struct #[f0, f1])) (ht : twoB P kt f0 f1 = true) :
    ValOk P G dt n ds o (fun e t0 hp k => updF2 ((opd G dt n ds y).run e t0) ((opd G dt n ds u).run e t0) ((opd G dt n ds x).run e t0) hp k) := by
  intro e t0 hp k r hr
  have h1 : updF2 ((opd G dt n ds y).run e t0) ((opd G dt n ds u).run e t0) ((opd G dt n ds x).run e t0) hp k = some r := hr
  unfold updF2 at h1
  split at h1
  · cases h1
  rename_i hko
  obtain ⟨r0, hm, h1⟩ := AV.on_mp_some h1
  cases hp with
  | mk mem nx =>
  obtain ⟨l, hl, h2⟩ := onTab_some (show onTab mem r0 _ = some r from h1)
  obtain ⟨q, h3, h4⟩ := findTw_some hk ht h2
  have key : ∀ l', k undefA (.mk (mem.set r0 (.tab l')) nx) = some r → (∀ φ (es : Array MapEntry) (c : Nat) kv val lk, VR φ ((opd G dt n ds y).run e t0) kv → VR φ ((opd G dt n ds u).run e t0) val → keyOf P kt kv = some lk → ents φ l es.toList →
        ∃ es' c', ents φ l' es'.toList ∧ ∀ w (g : Nat), w.heap[g]? = some (.map es c) → (Instr.mapUpdate mT (.map (some g)) kv val).run P w = .ok () { w with heap := w.heap.setIfInBounds g (.map es' c') }) →
      ∃ v hp', k v hp' = some r ∧ ∀ {sts : List Site} φ (B : Bse sts) (a : Act) w, Glo G φ → OpsR G dt n ds φ e t0 a.eval o.op → WH φ B (.mk mem nx) w →
        ∃ ψ v' w', ((execOp a.eval o).run P w = .ok (.value v') w' ∨ ((execOp a.eval o).run P w = .ok .skip w' ∧ v' = undef)) ∧ VR ψ v v' ∧ StH φ (.mk mem nx) w ψ hp' w' ∧ WH ψ B hp' w' := by
    intro l' hk' hall
    refine ⟨undefA, _, hk', fun φ B a w g1 hx hw => ?_⟩
    have mem3 : x ∈ o.op.operands ∧ y ∈ o.op.operands ∧ u ∈ o.op.operands := by rcases ho with ho | ho <;> (rw [ho]; simp [Op.operands])
    obtain ⟨g, hg, e1⟩ : ∃ g, φ r0 = some g ∧ a.eval x = .map (some g.1) := by have := hx x mem3.1; rw [hm] at this; exact this
    have hky := hx y mem3.2.1
    obtain ⟨lk, hkey⟩ := keyOk2_is hk ht hko hky
    have hw' : WR φ B mem nx w := hw
    obtain ⟨ob, h7, es, c, h8, h9⟩ := hw'.blk r0 _ g hl hg
    subst h8
    obtain ⟨es', c', f1, f2⟩ := hall φ es c _ _ lk hky (hx u mem3.2.2) hkey h9
    have hrun := f2 w g.1 h7
    have hgs := hw'.lt r0 g hg
    obtain ⟨s1, s2⟩ := hw'.put (w' := { w with heap := w.heap.setIfInBounds g.1 (.map es' c') }) (y := .tab l') (o := .map es' c') hl rfl rfl hg rfl rfl rfl (by simp)
      (fun k hk => by simp [Array.getElem?_setIfInBounds, Ne.symm hk]) (by simp [Array.getElem?_setIfInBounds, hgs]) ⟨es', c', rfl, f1⟩
    refine ⟨φ, undef, _, .inr ⟨?_, rfl⟩, undefA_ok φ, s2, s1⟩
    unfold execOp
    rcases ho with ho | ho <;> (simp only [ho, e1, Sem.run_bind, hrun, Result.andThen_ok]; rfl)
  have L := two_law hk ht
  cases q with
  | none =>
    refine key _ h3 fun φ es c kv val lk hky hval hkey he => ?_
    refine ⟨es.push { key := kv, val, born := c }, c + 1, by rw [Array.toList_push]; exact ents_app (e := { key := kv, val, born := c }) hky hval he, fun w g hb => ?_⟩
    rcases found2 hk ht hkey (h4 φ es.toList kv hky he) w with ⟨_, hf⟩ | ⟨_, _, _, hq, _⟩
    · simp [Instr.mapUpdate, run_underlying hu, Go.MapKept.run_getObj_map hb, L.check w false hkey, hf, Go.MapKept.run_setObj_map _ hb, Result.andThen]
    · cases hq
  | some jv =>
    obtain ⟨j0, v0⟩ := jv
    refine key _ h3 fun φ es c kv val lk hky hval hkey he => ?_
    rcases h4 φ es.toList kv hky he with ⟨_, ⟨hq, _⟩ | ⟨j, v', e', hq, hj, hek, hv', hun⟩⟩
    · cases hq
    · simp only [Option.some.injEq, Prod.mk.injEq, Nat.zero_add] at hq
      obtain ⟨rfl, _⟩ := hq
      have hj' : es[j0]? = some e' := by rw [← Array.getElem?_toList]; exact hj
      refine ⟨es.modify j0 fun e => { e with key := kv, val := val }, c, by rw [Array.toList_modify]; exact ents_set hval j0 he hj hek, fun w g hb => ?_⟩
      have hf : (Instr.findKey kt kv es.toList).run P w = .ok (some (j0, e'.val)) w := by
        rcases found2 hk ht hkey (h4 φ es.toList kv hky he) w with ⟨hq, _⟩ | ⟨j2, v2, e2, _, hj2, hk2, _, hf⟩
        · cases hq
        · have := hun j2 e2 hj2 hk2
          subst this
          rw [hj] at hj2
          cases hj2
          exact hf
      simp [Instr.mapUpdate, run_underlying hu, Go.MapKept.run_getObj_map hb, L.check w false hkey, hf, hj', hek, L.stays w hkey, Go.MapKept.run_setObj_map _ hb, Result.andThen]
end
end Go.Proofs.YtknjkljigmepjaaGreatDoor.Clo
end
section
namespace Go.Proofs.YtknjkljigmepjaaGreatDoor.Clo
open Go.RowKit
set_option linter.unusedVariables false
set_option linter.unusedSimpArgs false
variable [Tabs]
def methAt (P : Program) (t : TypeId) (name : String) : Option FuncId := match P.info? t with
  | none => none
  | some i => match i.methods.find? (·.name == name) with
    | none => none
    | some m => match m.path.toList, m.func, P.underlying t with
      | [], some (f, true), some (.pointer _) => some f
      | [], some (f, false), some d => match d with
        | .pointer _ => none
        | _ => some f
      | _, _, _ => none
section
variable {P : Program} {G dt n : Nat} {ds : List (Option Nat)} {o : Oper}
theorem run_method {t : TypeId} {name : String} {f : FuncId} (h : methAt P t name = some f) (v : Value) (w : World) (fuel : Nat) : (method (fuel + 1) t v name).run P w = .ok (f, v) w := by
  unfold methAt at h
  split at h
  · cases h
  rename_i i hi
  split at h
  · cases h
  rename_i m hm
  have hti : (typeInfo t).run P w = .ok i w := by
    obtain ⟨b, w', q1, q2, q3⟩ := runs_typeInfo (P := P) (w := w) (Q := fun b w' => b = i ∧ w' = w) hi ⟨rfl, rfl⟩
    rw [q1, q2, q3]
  have hgo : ∀ (d : TypeDesc) (ptr : Bool), m.path.toList = [] → m.func = some (f, ptr) → P.underlying t = some d → ((∃ e, d = .pointer e) ∧ ptr = true ∨ (∀ e, d ≠ .pointer e) ∧ ptr = false) → (method (fuel + 1) t v name).run P w = .ok (f, v) w := by
    intro d ptr h1 h2 h3 h4
    unfold method
    simp only [Sem.run_bind, hti, Result.andThen_ok, hm, h1, follow, Sem.run_pure, h2]
    have hu := run_underlying (P := P) (w := w) h3
    rcases h4 with ⟨⟨e, rfl⟩, rfl⟩ | ⟨h5, rfl⟩
    · simp only [receiverAt, Sem.run_bind, hu, Result.andThen_ok, Place.get, Sem.run_pure]
    · cases d with
      | pointer e => exact absurd rfl (h5 e)
      | _ => simp only [receiverAt, Sem.run_bind, hu, Result.andThen_ok, Place.get, Sem.run_pure]
  split at h
  · rename_i h1 h2 h3
    cases h
    exact hgo _ _ h1 h2 h3 (.inl ⟨⟨_, rfl⟩, rfl⟩)
  · rename_i h1 h2 h3
    split at h
    · cases h
    · rename_i hnp
      cases h
      exact hgo _ _ h1 h2 h3 (.inr ⟨fun e he => hnp e he, rfl⟩)
  · cases h
noncomputable def invF (P : Program) (name : String) (g : GV) (gs : List GV) : OM := .mk fun hd e t hp k kp => (g.run e t).on_ifc fun ty v => match methAt P ty name with
  | some f => hd.c f (.cons v (argsA gs e t)) hp k kp
  | none => none
theorem invoke_ok {x : Operand} {name : String} {xs : Array Operand} {ts : Array TypeId} (ho : o.op = .call { callee := .invoke x name, args := xs, argTypes := ts }) :
    OpOk P G dt n ds o (invF P name (opd G dt n ds x) (xs.toList.map (opd G dt n ds))) := by
  intro hd hok e t hp k kp r hr
  obtain ⟨ty, v, hv, h1⟩ := AV.on_ifc_some (show ((opd G dt n ds x).run e t).on_ifc _ = some r from hr)
  split at h1
  rotate_left
  · cases h1
  rename_i fid hmeth
  have prep : ∀ φ (a : Act) (w : World), Glo G φ → OpsR G dt n ds φ e t a.eval o.op → ∃ ars : Array Value, VL φ (.cons v (argsA (xs.toList.map (opd G dt n ds)) e t)) ars.toList ∧ (execOp a.eval o).run P w = (callFunc fid ars).run P w := by
    intro φ a w g1 g2
    have hfv := g2 x (by rw [ho]; simp [Op.operands, Call.operands])
    rw [hv] at hfv
    obtain ⟨u, e1, v1⟩ := hfv
    have e1' : a.eval x = .iface ty u := e1
    refine ⟨#[u] ++ xs.map a.eval, ?_, ?_⟩
    · rw [Array.toList_append, Array.toList_map]
      exact ⟨u, _, rfl, v1, argsA_ok fun y hm => g2 y (by rw [ho]; simp only [Op.operands, Call.operands, Array.mem_append]; exact .inr (Array.mem_toList_iff.1 hm))⟩
    · have hfuel : P.types.size + Made.depth = (P.types.size + 99) + 1 := rfl
      have hex : (#[Value.iface ty u] ++ xs.map a.eval).extract 1 (#[Value.iface ty u] ++ xs.map a.eval).size = xs.map a.eval := by
        apply Array.ext'
        simp
        exact List.take_of_length_le (by simp)
      have h0 : (#[Value.iface ty u] ++ xs.map a.eval)[0]? = some (.iface ty u) := by rw [Array.getElem?_append_left (by simp)]; rfl
      have hcm : (callMethod (.iface ty u) name (xs.map a.eval)).run P w = (callFunc fid (#[u] ++ xs.map a.eval)).run P w := by
        show (program >>= fun p => (method (p.types.size + Made.depth) ty u name >>= fun q => callFunc q.1 (#[q.2] ++ xs.map a.eval))).run P w = _
        rw [Sem.run_bind, show (program.run P w) = .ok P w from rfl, Result.andThen_ok, Sem.run_bind, hfuel, run_method hmeth]
        rfl
      have hin : (invoke (.fn (.method name) #[]) (#[Value.iface ty u] ++ xs.map a.eval)).run P w = (callMethod (.iface ty u) name (xs.map a.eval)).run P w := by
        unfold invoke
        simp only [h0, hex]
      unfold execOp
      rw [ho]
      simp only [resolve, e1', Sem.run_bind, Sem.run_pure, Result.andThen_ok]
      rw [hin, hcm]
  rcases hok.c fid _ hp k kp r h1 with ⟨v', hp', h2, h3⟩ | ⟨v', hp', h2, h3⟩
  · refine .inl ⟨v', hp', h2, fun φ B a w g1 g2 g4 K Q hK => ?_⟩
    obtain ⟨ars, hargs, hrun⟩ := prep φ a w g1 g2
    have hc := h3 φ B w _ g1 g4 hargs
    refine .inl ?_
    unfold Oper.wp
    rw [hrun]
    rcases hc with ⟨c1, c2⟩ | ⟨v', w', c1, c2⟩
    · rw [c1]
      refine Calls.mono c2 fun e' w' he => ?_
      obtain ⟨v', rfl, c3⟩ := he
      exact hK v' w' c3
    · rw [c1]
      exact hK v' w' c2
  · refine .inr ⟨v', hp', h2, fun φ B a w g1 g2 g4 K Q hQ => ?_⟩
    obtain ⟨ars, hargs, hrun⟩ := prep φ a w g1 g2
    obtain ⟨c1, c2⟩ := h3 φ B w _ g1 g4 hargs
    refine .inl ?_
    unfold Oper.wp
    rw [hrun, c1]
    refine Calls.mono c2 fun e' w' he => ?_
    obtain ⟨v', rfl, c3⟩ := he
    exact hQ v' w' c3
end
end Go.Proofs.YtknjkljigmepjaaGreatDoor.Clo
end
section
namespace Go.Proofs.YtknjkljigmepjaaGreatDoor.Clo
open Go.RowKit
set_option linter.unusedVariables false
set_option linter.unusedSimpArgs false
set_option linter.constructorNameAsVariable false
variable [Tabs]
noncomputable def onChn (m : Mem) (r : Id) (k : Nat → AV → Bool → R) : R := match m.get r with
  | some (.chn cap buf cl) => k cap buf cl
  | _ => none
theorem onChn_some {m : Mem} {r : Id} {k : Nat → AV → Bool → R} {x : AV × HP} (h : onChn m r k = some x) : ∃ cap buf cl, m.get r = some (.chn cap buf cl) ∧ k cap buf cl = some x := by
  unfold onChn at h
  split at h
  · rename_i cap buf cl e; exact ⟨cap, buf, cl, e, h⟩
  · cases h
theorem WR.chan {φ : Id → Option Plc} {sts : List Site} {B : Bse sts} {h : Mem} {nx : Id} {w : World} (hw : WR φ B h nx w) {r : Id} {cap : Nat} {buf : AV} {cl : Bool} {g : Plc} (hr : h.get r = some (.chn cap buf cl)) (hg : φ r = some g) :
    ∃ (c : Array Value) (s rc : Nat) (tm : Bool), w.heap[g.1]? = some (.chan cap c cl s rc tm) ∧ VL φ buf c.toList ∧ ∀ (buf' : AV) (c' : Array Value) (cl' : Bool) (s' rc' : Nat), VL φ buf' c'.toList →
      WR φ B (h.set r (.chn cap buf' cl')) nx (w.setChan g.1 cap c' cl' s' rc' tm) ∧ Step φ h nx w φ (h.set r (.chn cap buf' cl')) nx (w.setChan g.1 cap c' cl' s' rc' tm) := by
  obtain ⟨o, e, c, s, rc, tm, rfl, h2⟩ := hw.blk r _ g hr hg
  refine ⟨c, s, rc, tm, e, h2, fun buf' c' cl' s' rc' hv => ?_⟩
  exact hw.put hr rfl rfl hg rfl rfl rfl (by simp [World.setChan]) (fun k hk => by simp only [World.setChan]; rw [Array.getElem?_setIfInBounds_ne (Ne.symm hk)]) (Go.Conc.heap_setChan w g.1 cap c' cl' s' rc' tm (hw.lt r g hg)) ⟨c', s', rc', tm, rfl, hv⟩
section
variable {P : Program} {G dt n : Nat} {ds : List (Option Nat)} {o : Oper}
theorem makeChan_ok {t elem : TypeId} {x : Operand} {dir : ChanDir} {i : TypeInfo} (ho : o.op = .makeChan t x) (hu : P.underlying t = some (.chan dir elem)) (hi : P.info? elem = some i) :
    MakeOk P G dt n ds o (fun e t0 hp k => ((opd G dt n ds x).run e t0).on_i fun _ j => match j with
      | .ofNat m => match Nat.ble m 1048576, Nat.ble (Nat.mul i.bytes m) 281474976710544 with
        | true, true => newB (.chn m .nil false) hp fun r hp => k (.ch r) hp
        | _, _ => none
      | _ => none) := by
  intro e t0 hp k r hr
  obtain ⟨kd, j, hj, h1⟩ := AV.on_i_some hr
  cases j with
  | negSucc m => cases h1
  | ofNat m =>
  simp only at h1
  split at h1
  · rename_i b1 b2
    have b1' : m ≤ 1048576 := Nat.le_of_ble_eq_true b1
    have b2' : i.bytes * m ≤ 281474976710544 := Nat.le_of_ble_eq_true b2
    obtain ⟨mm, nx, e', hl, h2⟩ := newB_some h1
    refine ⟨mm, nx, _, _, e', hl, rfl, h2, fun φ a w g1 g2 => ?_⟩
    have hx := g2 x (by rw [ho]; simp [Op.operands, Call.operands])
    rw [hj] at hx
    have e1 : a.eval x = .int kd (Int.ofNat m) := hx
    refine ⟨.chan (some w.heap.size), .chan m #[] false 0 0 false, (0, 0), _, ?_, .alloc _ _, ⟨#[], 0, 0, false, rfl, rfl⟩, fun ψ _ hn => ⟨_, hn, rfl⟩⟩
    have hmax : IntKind.i64.max = 9223372036854775807 := rfl
    have hti : (typeInfo elem).run P w = .ok i w := by
      obtain ⟨b, w', q1, q2, q3⟩ := runs_typeInfo (P := P) (w := w) (Q := fun b w' => b = i ∧ w' = w) hi ⟨rfl, rfl⟩
      rw [q1, q2, q3]
    have hnot : ¬ (Int.ofNat m < 0 ∨ Int.ofNat m > IntKind.i64.max ∨ (i.bytes : Int) * Int.ofNat m > 2 ^ 48 - 112) := by
      rw [hmax]
      have h3 : ((i.bytes * m : Nat) : Int) ≤ 281474976710544 := Int.ofNat_le.2 b2'
      have h4 : ((i.bytes * m : Nat) : Int) = (i.bytes : Int) * Int.ofNat m := by simp
      rw [h4] at h3
      have h5 : Int.ofNat m = (m : Int) := rfl
      have h6 : (2 : Int) ^ 48 - 112 = 281474976710544 := rfl
      rw [h6]
      generalize (i.bytes : Int) * Int.ofNat m = z at h3 ⊢
      rw [h5]
      omega
    unfold execOp
    rw [ho]
    simp only [Instr.makeChan, e1, asInt, asIntOf, Sem.run_bind, Sem.run_pure, Result.andThen_ok, run_underlying hu, hti]
    rw [if_neg hnot]
    rfl
  · cases h1
theorem close_ok {x : Operand} {t : TypeId} (ho : o.op = .call { callee := .builtin .close, args := #[x], argTypes := #[t] }) :
    ValOk P G dt n ds o (fun e t0 hp k => ((opd G dt n ds x).run e t0).on_ch fun r => hp.on fun mem nx => onChn mem r fun cap buf cl => match cl with
      | false => k undefA (.mk (mem.set r (.chn cap buf true)) nx)
      | true => none) := by
  intro e t0 hp k r hr
  obtain ⟨q, hq, h1⟩ := AV.on_ch_some hr
  cases hp with
  | mk mem nx =>
  obtain ⟨cap, buf, cl, hm, h2⟩ := onChn_some (show onChn mem q _ = some r from h1)
  cases cl with
  | true => cases h2
  | false =>
  refine ⟨_, _, h2, fun φ B a w g1 g2 hw => ?_⟩
  have hx := g2 x (by rw [ho]; simp [Op.operands, Call.operands])
  rw [hq] at hx
  obtain ⟨g, hg, e1⟩ := hx
  have e1' : a.eval x = .chan (some g.1) := e1
  obtain ⟨c, s, rc, tm, hh, hv, hput⟩ := WR.chan (show WR φ B mem nx w from hw) hm hg
  obtain ⟨s1, s2⟩ := hput buf c true s rc hv
  refine ⟨φ, undef, _, .inl ?_, undefA_ok φ, s2, s1⟩
  unfold execOp
  rw [ho]
  have hcl : (Builtin.close_ #[t] o.type #[.chan (some g.1)]).run P w = .ok undef (w.setChan g.1 cap c true s rc tm) := by
    have hdef : Builtin.close_ #[t] o.type #[.chan (some g.1)] = (do
        let .chan room buf closed sent received timer ← getObj g.1 | stuck "close: no channel in this block"
        if closed then runtimePanic (.plain "close of closed channel")
        setObj g.1 (.chan room buf true sent received timer)
        Pure.pure (.tuple #[])) := rfl
    rw [hdef]
    simp [getObj, setObj, hh, World.setChan, undef, Sem.run]
  simp only [resolve, invoke, builtin, Sem.run_bind, Sem.run_pure, Result.andThen_ok, List.map_toArray, List.map_cons, List.map_nil, e1', hcl]
theorem send_ok {c x : Operand} (ho : o.op = .send c x) :
    ComOk P G dt n ds o (fun e t0 hp k => ((opd G dt n ds c).run e t0).on_ch fun r => hp.on fun mem nx => onChn mem r fun cap buf cl => match cl, Nat.blt buf.len cap with
      | false, true => k undefA (.mk (mem.set r (.chn cap (buf.app (.cons ((opd G dt n ds x).run e t0) .nil)) false)) nx)
      | _, _ => none) := by
  intro e t0 hp k r hr
  obtain ⟨q, hq, h1⟩ := AV.on_ch_some hr
  cases hp with
  | mk mem nx =>
  obtain ⟨cap, buf, cl, hm, h2⟩ := onChn_some (show onChn mem q _ = some r from h1)
  split at h2
  · rename_i hlt
    have hlt' : buf.len < cap := by simpa [Nat.blt_eq] using hlt
    refine ⟨_, _, h2, fun φ B a w g1 g2 hw K hK => ?_⟩
    have hx := g2 c (by rw [ho]; simp [Op.operands, Call.operands])
    have hy := g2 x (by rw [ho]; simp [Op.operands, Call.operands])
    rw [hq] at hx
    obtain ⟨g, hg, e1⟩ := hx
    have e1' : a.eval c = .chan (some g.1) := e1
    obtain ⟨cs, s, rc, tm, hh, hv, hput⟩ := WR.chan (show WR φ B mem nx w from hw) hm hg
    have hroom : cs.size < cap := by rw [← Array.length_toList, VL.len hv]; exact hlt'
    obtain ⟨s1, s2⟩ := hput (buf.app (.cons ((opd G dt n ds x).run e t0) .nil)) (cs.push (a.eval x)) false (s + 1) rc (by rw [Array.toList_push]; exact VL.app hv ⟨_, _, rfl, hy, rfl⟩)
    refine ⟨#[Go.Conc.scase g.1 (a.eval x) (.tuple #[])], true, .send, undef, _, ?_, by unfold noDefer; rw [ho], fun fr callers w0 es h => ?_, hK _ _ ⟨φ, undefA_ok φ, s2, s1⟩⟩
    · unfold execOp
      rw [ho]
      simp [e1', Go.Conc.scase]
    · exact Go.Conc.step_lone_send_room h hh hroom
  · cases h2
theorem recv_ok {t elem : TypeId} {c : Operand} {dir : ChanDir} {i : TypeInfo} {z : Value} (ho : o.op = .recv t c true) (hu : P.underlying t = some (.chan dir elem)) (hi : P.info? elem = some i) (hz : i.zero = some z) :
    ComOk P G dt n ds o (fun e t0 hp k => ((opd G dt n ds c).run e t0).on_ch fun r => hp.on fun mem nx => onChn mem r fun cap buf cl => match buf with
      | .cons x rest => k (.tu (.cons x (.cons (.b true) .nil))) (.mk (mem.set r (.chn cap rest cl)) nx)
      | .nil => match cl with
        | true => k (.tu (.cons (ofConst z) (.cons (.b false) .nil))) (.mk mem nx)
        | false => none
      | _ => none) := by
  intro e t0 hp k r hr
  obtain ⟨q, hq, h1⟩ := AV.on_ch_some hr
  cases hp with
  | mk mem nx =>
  obtain ⟨cap, buf, cl, hm, h2⟩ := onChn_some (show onChn mem q _ = some r from h1)
  have hzv : ∀ w, (zeroValue elem).run P w = .ok z w := fun w => by
    obtain ⟨b, w', q1, q2, q3⟩ := runs_zero (P := P) (w := w) (Q := fun b w' => b = z ∧ w' = w) hi hz ⟨rfl, rfl⟩
    rw [q1, q2, q3]
  have hrun : ∀ (a : Act) w (g : Nat), a.eval c = .chan (some g) → (execOp a.eval o).run P w = .ok (.comm #[Go.Conc.rcase g z] true (.recv true)) w := fun a w g e1 => by
    unfold execOp
    rw [ho]
    simp [e1, run_underlying hu, hzv, Go.Conc.rcase]
  split at h2
  · rename_i x rest
    refine ⟨_, _, h2, fun φ B a w g1 g2 hw K hK => ?_⟩
    have hx := g2 c (by rw [ho]; simp [Op.operands, Call.operands])
    rw [hq] at hx
    obtain ⟨g, hg, e1⟩ := hx
    have e1' : a.eval c = .chan (some g.1) := e1
    obtain ⟨cs, s, rc, tm, hh, hv, hput⟩ := WR.chan (show WR φ B mem nx w from hw) hm hg
    obtain ⟨v, vs, ev, hv1, hv2⟩ := hv
    have hsome : 0 < cs.size := by rw [← Array.length_toList, ev]; simp
    have hsz : cs.size = vs.length + 1 := by rw [← Array.length_toList, ev]; simp
    obtain ⟨s1, s2⟩ := hput rest (cs.extract 1 cs.size) cl s (rc + 1) (by rw [Array.toList_extract, ev, hsz]; simpa [List.extract] using hv2)
    refine ⟨#[Go.Conc.rcase g.1 z], true, .recv true, .tuple #[cs.getD 0 undef, .bool true], _, hrun a w g.1 e1', by unfold noDefer; rw [ho], fun fr callers w0 es h => ?_, hK _ _ ⟨φ, ⟨_, rfl, _, _, rfl, ?_, _, _, rfl, rfl, rfl⟩, s2, s1⟩⟩
    · exact Go.Conc.step_lone_recv_buf true h hh hsome
    · have : cs.getD 0 undef = v := by rw [Array.getD_eq_getD_getElem?, ← Array.getElem?_toList, ev]; rfl
      rw [this]
      exact hv1
  · split at h2
    · refine ⟨_, _, h2, fun φ B a w g1 g2 hw K hK => ?_⟩
      have hx := g2 c (by rw [ho]; simp [Op.operands, Call.operands])
      rw [hq] at hx
      obtain ⟨g, hg, e1⟩ := hx
      have e1' : a.eval c = .chan (some g.1) := e1
      obtain ⟨cs, s, rc, tm, hh, hv, hput⟩ := WR.chan (show WR φ B mem nx w from hw) hm hg
      have hv' : cs.toList = [] := hv
      have hcs : cs = #[] := by cases cs; simp_all
      subst hcs
      refine ⟨#[Go.Conc.rcase g.1 z], true, .recv true, .tuple #[z, .bool false], w, hrun a w g.1 e1', by unfold noDefer; rw [ho], fun fr callers w0 es h => ?_, hK _ _ ⟨φ, ⟨_, rfl, _, _, rfl, ofConst_ok φ z, _, _, rfl, rfl, rfl⟩, Step.refl, hw⟩⟩
      exact Go.Conc.step_lone_recv_shut true h hh
    · cases h2
  · cases h2
theorem selRecv_ok {el : TypeId} {c : Operand} {i : TypeInfo} {z : Value} (ho : o.op = .select #[{ chan := c, send := none, elem := el }] false) (hi : P.info? el = some i) (hz : i.zero = some z) :
    ComOk P G dt n ds o (fun e t0 hp k => ((opd G dt n ds c).run e t0).on_ch fun r => hp.on fun mem nx => onChn mem r fun cap buf cl => match buf with
      | .cons x rest => k (.tu (.cons (.i .i64 0) (.cons (.b true) (.cons x .nil)))) (.mk (mem.set r (.chn cap rest cl)) nx)
      | .nil => match cl with
        | false => k (.tu (.cons (.i .i64 (-1)) (.cons (.b false) (.cons (ofConst z) .nil)))) (.mk mem nx)
        | true => none
      | _ => none) := by
  intro e t0 hp k r hr
  obtain ⟨q, hq, h1⟩ := AV.on_ch_some hr
  cases hp with
  | mk mem nx =>
  obtain ⟨cap, buf, cl, hm, h2⟩ := onChn_some (show onChn mem q _ = some r from h1)
  have hzv : ∀ w, (zeroValue el).run P w = .ok z w := fun w => by
    obtain ⟨b, w', q1, q2, q3⟩ := runs_zero (P := P) (w := w) (Q := fun b w' => b = z ∧ w' = w) hi hz ⟨rfl, rfl⟩
    rw [q1, q2, q3]
  have hrun : ∀ (a : Act) w (g : Nat), a.eval c = .chan (some g) → (execOp a.eval o).run P w = .ok (.comm #[Go.Conc.rcase g z] false .select) w := fun a w g e1 => by
    unfold execOp
    rw [ho]
    simp [e1, hzv, Go.Conc.rcase]
  split at h2
  · rename_i x rest
    refine ⟨_, _, h2, fun φ B a w g1 g2 hw K hK => ?_⟩
    have hx := g2 c (by rw [ho]; simp [Op.operands, Call.operands])
    rw [hq] at hx
    obtain ⟨g, hg, e1⟩ := hx
    have e1' : a.eval c = .chan (some g.1) := e1
    obtain ⟨cs, s, rc, tm, hh, hv, hput⟩ := WR.chan (show WR φ B mem nx w from hw) hm hg
    obtain ⟨v, vs, ev, hv1, hv2⟩ := hv
    have hsome : 0 < cs.size := by rw [← Array.length_toList, ev]; simp
    have hsz : cs.size = vs.length + 1 := by rw [← Array.length_toList, ev]; simp
    obtain ⟨s1, s2⟩ := hput rest (cs.extract 1 cs.size) cl s (rc + 1) (by rw [Array.toList_extract, ev, hsz]; simpa [List.extract] using hv2)
    refine ⟨#[Go.Conc.rcase g.1 z], false, .select, .tuple #[goInt 0, .bool true, cs.getD 0 undef], _, hrun a w g.1 e1', by unfold noDefer; rw [ho], fun fr callers w0 es h => ?_, hK _ _ ⟨φ, ⟨_, rfl, _, _, rfl, rfl, _, _, rfl, rfl, _, _, rfl, ?_, rfl⟩, s2, s1⟩⟩
    · exact Go.Conc.step_lone_select_recv_buf h hh hsome
    · have : cs.getD 0 undef = v := by rw [Array.getD_eq_getD_getElem?, ← Array.getElem?_toList, ev]; rfl
      rw [this]
      exact hv1
  · split at h2
    · refine ⟨_, _, h2, fun φ B a w g1 g2 hw K hK => ?_⟩
      have hx := g2 c (by rw [ho]; simp [Op.operands, Call.operands])
      rw [hq] at hx
      obtain ⟨g, hg, e1⟩ := hx
      have e1' : a.eval c = .chan (some g.1) := e1
      obtain ⟨cs, s, rc, tm, hh, hv, hput⟩ := WR.chan (show WR φ B mem nx w from hw) hm hg
      have hv' : cs.toList = [] := hv
      have hcs : cs = #[] := by cases cs; simp_all
      subst hcs
      refine ⟨#[Go.Conc.rcase g.1 z], false, .select, .tuple #[goInt (-1), .bool false, z], w, hrun a w g.1 e1', by unfold noDefer; rw [ho], fun fr callers w0 es h => ?_, hK _ _ ⟨φ, ⟨_, rfl, _, _, rfl, rfl, _, _, rfl, rfl, _, _, rfl, ofConst_ok φ z, rfl⟩, Step.refl, hw⟩⟩
      exact Go.Conc.step_lone_select_default h hh
    · cases h2
  · cases h2
theorem selSend_ok {el : TypeId} {c x : Operand} {i : TypeInfo} {z : Value} (ho : o.op = .select #[{ chan := c, send := some x, elem := el }] false) (hi : P.info? el = some i) (hz : i.zero = some z) :
    ComOk P G dt n ds o (fun e t0 hp k => ((opd G dt n ds c).run e t0).on_ch fun r => hp.on fun mem nx => onChn mem r fun cap buf cl => match cl, Nat.blt buf.len cap with
      | false, true => k (.tu (.cons (.i .i64 0) (.cons (.b false) .nil))) (.mk (mem.set r (.chn cap (buf.app (.cons ((opd G dt n ds x).run e t0) .nil)) false)) nx)
      | false, false => k (.tu (.cons (.i .i64 (-1)) (.cons (.b false) .nil))) (.mk mem nx)
      | _, _ => none) := by
  intro e t0 hp k r hr
  obtain ⟨q, hq, h1⟩ := AV.on_ch_some hr
  cases hp with
  | mk mem nx =>
  obtain ⟨cap, buf, cl, hm, h2⟩ := onChn_some (show onChn mem q _ = some r from h1)
  have hzv : ∀ w, (zeroValue el).run P w = .ok z w := fun w => by
    obtain ⟨b, w', q1, q2, q3⟩ := runs_zero (P := P) (w := w) (Q := fun b w' => b = z ∧ w' = w) hi hz ⟨rfl, rfl⟩
    rw [q1, q2, q3]
  have hrun : ∀ (a : Act) w (g : Nat), a.eval c = .chan (some g) → (execOp a.eval o).run P w = .ok (.comm #[Go.Conc.scase g (a.eval x) z] false .select) w := fun a w g e1 => by
    unfold execOp
    rw [ho]
    simp [e1, hzv, Go.Conc.scase]
  split at h2
  · rename_i hlt
    have hlt' : buf.len < cap := by simpa [Nat.blt_eq] using hlt
    refine ⟨_, _, h2, fun φ B a w g1 g2 hw K hK => ?_⟩
    have hx := g2 c (by rw [ho]; simp [Op.operands, Call.operands])
    have hy := g2 x (by rw [ho]; simp [Op.operands, Call.operands])
    rw [hq] at hx
    obtain ⟨g, hg, e1⟩ := hx
    have e1' : a.eval c = .chan (some g.1) := e1
    obtain ⟨cs, s, rc, tm, hh, hv, hput⟩ := WR.chan (show WR φ B mem nx w from hw) hm hg
    have hroom : cs.size < cap := by rw [← Array.length_toList, VL.len hv]; exact hlt'
    obtain ⟨s1, s2⟩ := hput (buf.app (.cons ((opd G dt n ds x).run e t0) .nil)) (cs.push (a.eval x)) false (s + 1) rc (by rw [Array.toList_push]; exact VL.app hv ⟨_, _, rfl, hy, rfl⟩)
    refine ⟨#[Go.Conc.scase g.1 (a.eval x) z], false, .select, .tuple #[goInt 0, .bool false], _, hrun a w g.1 e1', by unfold noDefer; rw [ho], fun fr callers w0 es h => ?_, hK _ _ ⟨φ, ⟨_, rfl, _, _, rfl, rfl, _, _, rfl, rfl, rfl⟩, s2, s1⟩⟩
    exact Go.Conc.step_lone_select_send_room h hh hroom
  · rename_i hlt
    have hlt' : ¬ buf.len < cap := fun h9 => by rw [show Nat.blt buf.len cap = true from by rw [Nat.blt_eq]; exact h9] at hlt; cases hlt
    refine ⟨_, _, h2, fun φ B a w g1 g2 hw K hK => ?_⟩
    have hx := g2 c (by rw [ho]; simp [Op.operands, Call.operands])
    rw [hq] at hx
    obtain ⟨g, hg, e1⟩ := hx
    have e1' : a.eval c = .chan (some g.1) := e1
    obtain ⟨cs, s, rc, tm, hh, hv, hput⟩ := WR.chan (show WR φ B mem nx w from hw) hm hg
    have hfull : cap ≤ cs.size := by rw [← Array.length_toList, VL.len hv]; omega
    refine ⟨#[Go.Conc.scase g.1 (a.eval x) z], false, .select, .tuple #[goInt (-1), .bool false], w, hrun a w g.1 e1', by unfold noDefer; rw [ho], fun fr callers w0 es h => ?_, hK _ _ ⟨φ, ⟨_, rfl, _, _, rfl, rfl, _, _, rfl, rfl, rfl⟩, Step.refl, hw⟩⟩
    exact Go.Conc.step_lone_select_send_full h hh hfull
  · cases h2
end
abbrev CD (P : Program) (G dt n : Nat) (ds : List (Option Nat)) (o : Oper) := Option { F : VM // ComOk P G dt n ds o F }
noncomputable def cdSel (P : Program) (G dt n : Nat) (ds : List (Option Nat)) (o : Oper) (l : List SelectCase) (ho : o.op = .select l.toArray false) : CD P G dt n ds o :=
  match l, ho with
  | [⟨c, none, el⟩], ho => match hi : P.info? el with
    | some i => match hz : i.zero with
      | some z => some ⟨_, selRecv_ok ho hi hz⟩
      | none => none
    | none => none
  | [⟨c, some x, el⟩], ho => match hi : P.info? el with
    | some i => match hz : i.zero with
      | some z => some ⟨_, selSend_ok ho hi hz⟩
      | none => none
    | none => none
  | _, _ => none
noncomputable def cdAll (P : Program) (G dt n : Nat) (ds : List (Option Nat)) (o : Oper) : CD P G dt n ds o :=
  match ho : o.op with
  | .send c x => some ⟨_, send_ok ho⟩
  | .recv t c true => match hu : P.underlying t with
    | some (.chan dir el) => match hi : P.info? el with
      | some i => match hz : i.zero with
        | some z => some ⟨_, recv_ok ho hu hi hz⟩
        | none => none
      | none => none
    | _ => none
  | .select l false => cdSel P G dt n ds o l.toList (by rw [ho])
  | _ => none
end Go.Proofs.YtknjkljigmepjaaGreatDoor.Clo
end
