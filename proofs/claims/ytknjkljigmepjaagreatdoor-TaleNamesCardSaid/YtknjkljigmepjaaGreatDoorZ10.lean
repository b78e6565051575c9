/- Part 10 of a proof laid in parts, one behind the other; no condition of its own. -/
import Derived.Test.YtknjkljigmepjaaGreatDoorZ09
import Derived.Lib.Index
import Derived.Shelf.Small.Strs
import Derived.Shelf.LaysM
import Derived.Shelf.Strings.Search1
import Derived.Shelf.Strings.Search2
import Derived.Test.YtknjkljigmepjaaGreatDoorProg
set_option linter.all false
section
namespace Go.Proofs.YtknjkljigmepjaaGreatDoor.Clo
open Go.RowKit
set_option linter.unusedVariables false
set_option linter.unusedSimpArgs false
set_option linter.constructorNameAsVariable false
variable [Tabs]
structure St where
  slots : List (Nat × AV)
  mem : List (Nat × Blk)
  nx : Nat
noncomputable def mkTr (dt : Nat) (l : List (Nat × AV)) : Tr := List.rec (motive := fun _ => Tr) .e (fun p _ ih => T4.set (path dt p.1) p.2 ih) l
theorem tr_get {dt : Nat} : ∀ {l : List (Nat × AV)} {r : Id} {x : AV}, (mkTr dt l).get r = some x → ∃ p ∈ l, r = path dt p.1 ∧ x = p.2
  | [], r, x, h => by rw [show mkTr dt [] = .e from rfl, T4.get_e] at h; cases h
  | p :: l, r, x, h => by
    have h' : (T4.set (path dt p.1) p.2 (mkTr dt l)).get r = some x := h
    by_cases e : r = path dt p.1
    · subst e
      rw [T4.get_set_same] at h'
      cases h'
      exact ⟨p, by simp, rfl, rfl⟩
    · obtain ⟨q, h1, h2⟩ := tr_get (T4.get_of_set _ _ _ _ _ h' e)
      exact ⟨q, by simp [h1], h2⟩
def fixOf : Value → Option (TypeId × Nat × Nat)
  | .iface t (.agg a) => match a.toList with
    | [.pointer (some ad)] => match ad.spot with
      | none => some (t, ad.block, ad.off)
      | some _ => none
    | _ => none
  | _ => none
theorem fixOf_some {v : Value} {t : TypeId} {b o : Nat} (h : fixOf v = some (t, b, o)) : v = .iface t (.agg #[.pointer (some ⟨b, o, none⟩)]) := by
  unfold fixOf at h
  split at h
  · rename_i t' a
    split at h
    · rename_i ad ha
      split at h
      · rename_i hs
        simp only [Option.some.injEq, Prod.mk.injEq] at h
        obtain ⟨rfl, rfl, rfl⟩ := h
        have e : a = #[.pointer (some ad)] := Array.ext' (by simpa using ha)
        subst e
        cases ad
        simp only at hs
        subst hs
        rfl
      · cases h
    · cases h
  · cases h
def eqFix (v v' : Value) : Bool := match fixOf v, fixOf v' with
  | some k, some k' => Nat.beq k.1 k'.1 && (Nat.beq k.2.1 k'.2.1 && Nat.beq k.2.2 k'.2.2)
  | _, _ => false
theorem eqFix_eq {v v' : Value} (h : eqFix v v' = true) : v = v' := by
  unfold eqFix at h
  split at h
  · rename_i k k' e1 e2
    obtain ⟨a, b, c⟩ := k
    obtain ⟨a', b', c'⟩ := k'
    simp only [Bool.and_eq_true] at h
    rw [fixOf_some e1, fixOf_some e2, Nat.eq_of_beq_eq_true h.1, Nat.eq_of_beq_eq_true h.2.1, Nat.eq_of_beq_eq_true h.2.2]
  · cases h
def eqB : Blk → Blk → Bool
  | .row t g z o c, .row t' g' z' o' c' => Nat.beq t t' && (g == g' && (decide (z = z') && (o == o' && eqA c c')))
  | .tab l, .tab l' => eqA l l'
  | .num k, .num k' => decide (k = k')
  | .fix v, .fix v' => eqFix v v'
  | _, _ => false
theorem eqB_eq {a b : Blk} (h : eqB a b = true) : a = b := by
  cases a <;> cases b <;> simp only [eqB, Bool.false_eq_true] at h
  · simp only [Bool.and_eq_true, decide_eq_true_eq, beq_iff_eq] at h
    obtain ⟨h1, h2, h3, h4, h5⟩ := h
    rw [Nat.eq_of_beq_eq_true h1, h2, h3, h4, eqA_eq h5]
  · rw [eqA_eq h]
  · rw [of_decide_eq_true h]
  · rw [eqFix_eq h]
noncomputable def slotsOk (dt : Nat) (t : Tr) : List (Nat × AV) → Bool
  | [] => true
  | p :: l => eqA (getT (path dt p.1) t) p.2 && slotsOk dt t l
noncomputable def memOk (m : Mem) : List (Nat × Blk) → Bool
  | [] => true
  | p :: l => (match m.get (path DB p.1) with | some b => eqB b p.2 | none => false) && memOk m l
theorem slotsOk_all {dt : Nat} {t : Tr} : ∀ {l : List (Nat × AV)}, slotsOk dt t l = true → ∀ p ∈ l, getT (path dt p.1) t = p.2
  | [], _, p, hp => by cases hp
  | q :: l, h, p, hp => by
    simp only [slotsOk, Bool.and_eq_true] at h
    rcases List.mem_cons.1 hp with rfl | hp
    · exact eqA_eq h.1
    · exact slotsOk_all h.2 p hp
theorem memOk_all {m : Mem} : ∀ {l : List (Nat × Blk)}, memOk m l = true → ∀ p ∈ l, m.get (path DB p.1) = some p.2
  | [], _, p, hp => by cases hp
  | q :: l, h, p, hp => by
    simp only [memOk, Bool.and_eq_true] at h
    rcases List.mem_cons.1 hp with rfl | hp
    · have h1 := h.1
      split at h1
      · rename_i b hb
        rw [hb, eqB_eq h1]
      · cases h1
    · exact memOk_all h.2 p hp
section
variable {P : Program} {G dt n : Nat} {lo : Nat → Bool} {φ : Id → Option Plc} {sts : List Site} {B : Bse sts} {w : World} {a : Act}
theorem FR.cut {t : Tr} {l : List (Nat × AV)} (h : FR φ dt n lo t a) (hl : ∀ p ∈ l, getT (path dt p.1) t = p.2) (hn : getT (path dt n) t = .u) : FR φ dt n lo (mkTr dt l) a := by
  have key : ∀ k, getT (path dt k) (mkTr dt l) = .u ∨ getT (path dt k) (mkTr dt l) = getT (path dt k) t := fun k => by
    rw [getT_get]
    cases e : (mkTr dt l).get (path dt k) with
    | none => exact .inl rfl
    | some x =>
      obtain ⟨p, h1, h2, h3⟩ := tr_get e
      refine .inr ?_
      show x = _
      rw [h3, h2, hl p h1]
  refine ⟨h.sz, h.cap, fun d hd => ?_, fun d hd hlo => ?_, ?_⟩
  · rcases key d with e | e
    · rw [e]; exact trivial
    · rw [e]; exact h.at' d hd
  · rcases key d with e | e
    · exact e
    · rw [e]; exact h.lo d hd hlo
  · rcases key n with e | e
    · rw [e, ← hn]; exact h.df
    · rw [e]; exact h.df
theorem WR.cut {m : Mem} {nx : Id} {l : List (Nat × Blk)} (h : WR φ B m nx w) (hl : ∀ p ∈ l, m.get (path DB p.1) = some p.2) : WR φ B (mkMem l) nx w := by
  have key : ∀ r x, (mkMem l).get r = some x → m.get r = some x := fun r x e => by
    obtain ⟨p, h1, rfl, rfl⟩ := mem_get e
    exact hl p h1
  refine ⟨h.len, fun r hr => h.fresh r ?_, fun r x g h1 h2 => h.blk r x g (key r x h1) h2, fun r r' x x' g g' h1 h2 => h.inj r r' x x' g g' (key r x h1) (key r' x' h2), h.lt, fun r x g h1 => h.base r x g (key r x h1), h.bsz, h.loops, h.tabs⟩
  rcases hr with hr | hr
  · left
    cases e : (mkMem l).get r with
    | none => exact absurd e hr
    | some x => rw [key r x e]; simp
  · exact .inr hr
def Goal (P : Program) (G dt n : Nat) (lo : Nat → Bool) (R : Act → World → Prop) (l : List Code) (S : St) : Prop :=
  ∀ φ (B : Bse []) a w, Glo G φ → FR φ dt n lo (mkTr dt S.slots) a → WR φ B (mkMem S.mem) (path DB S.nx) w → ∀ Q : Exit → Act → World → Prop, (∀ e a' w', e = .normal ∨ e = .ret → a'.defers = [] → R a' w' → Below B.b w w' → Q e a' w') → wpL P l Q a w
noncomputable def stEnd (dt n : Nat) (S : St) (x : Ex) (t : Tr) (hp : HP) : R := match x with
  | .normal => match hp with
    | .mk m nx => match slotsOk dt t S.slots && (memOk m S.mem && (eqA.listEqId nx (path DB S.nx) && eqA (getT (path dt n) t) .u)) with
      | true => some (.u, hp)
      | false => none
  | _ => none
theorem Goal.part {R : Act → World → Prop} {l1 l2 : List Code} {S S' : St} {mk : Code → CM} (hm : ∀ c, CMOk P G dt n lo c (mk c)) {hd : HdB} (hokb : HdOkB P G hd) {r : AV × HP}
    (hrun : (cmL mk l1).run ⟨hd, y0⟩ (mkTr dt S.slots) (.mk (mkMem S.mem) (path DB S.nx)) (stEnd dt n S') = some r) (h2 : Goal P G dt n lo R l2 S') : Goal P G dt n lo R (l1 ++ l2) S := by
  obtain ⟨x, t', hp', h3, h4⟩ := cmL_ok hm l1 ⟨hd, y0⟩ ⟨y0_ok, hokb⟩ _ _ _ r hrun
  unfold stEnd at h3
  split at h3
  · split at h3
    rename_i m nx
    split at h3
    · rename_i hc
      simp only [Bool.and_eq_true] at hc
      obtain ⟨c1, c2, c3, c4⟩ := hc
      have c4' := eqA_eq c4
      have c3' := listEqId_eq c3
      subst c3'
      intro φ B a w g1 g2 g3 Q hQ
      refine wpL_app l1 l2 Q a w (h4 φ B a w g1 g2 g3 _ fun ψ a' w' x' f0 f1 f2 f3 => ?_)
      have : x' = .normal := f0
      subst this
      have hb := Step.below g3 f2
      exact h2 ψ B a' w' (g1.more f2.more) (f1.cut (slotsOk_all c1) c4') (WR.cut f3 (memOk_all c2)) Q fun e a'' w'' e0 e1 e2 e3 => hQ e a'' w'' e0 e1 e2 (hb.trans e3)
    · cases h3
  · cases h3
noncomputable def isTrueR (hp : HP) (v : AV) : R := match v with
  | .b true => some (.u, hp)
  | _ => none
noncomputable def stTrue (P : Program) (dt n : Nat) (rs : List ResultVar) (x : Ex) (t : Tr) (hp : HP) : R := match x, getT (path dt n) t with
  | .normal, .u => (resL P dt n rs).run t hp fun l => oneOf l (isTrueR hp)
  | .ret, .u => (resL P dt n rs).run t hp fun l => oneOf l (isTrueR hp)
  | _, _ => none
theorem Goal.last {fn : Func} {l : List Code} {S : St} {mk : Code → CM} (h4 : fn.results.toList.length ≤ 5) (hm : ∀ c, CMOk P G dt fn.ntmps lo c (mk c)) {hd : HdB} (hokb : HdOkB P G hd) {r : AV × HP}
    (hrun : (cmL mk l).run ⟨hd, y0⟩ (mkTr dt S.slots) (.mk (mkMem S.mem) (path DB S.nx)) (stTrue P dt fn.ntmps fn.results.toList) = some r) : Goal P G dt fn.ntmps lo (fun a w => (results fn a.tmps).run P w = .ok (.bool true) w) l S := by
  obtain ⟨x, t', hp', h3, h5⟩ := cmL_ok hm l ⟨hd, y0⟩ ⟨y0_ok, hokb⟩ _ _ _ r hrun
  have fin : getT (path dt fn.ntmps) t' = .u → (resL P dt fn.ntmps fn.results.toList).run t' hp' (fun l => oneOf l (isTrueR hp')) = some r → ∀ φ (B : Bse []) a w, FR φ dt fn.ntmps lo t' a → WH φ B hp' w → a.defers = [] ∧ (results fn a.tmps).run P w = .ok (.bool true) w := by
    intro hu h6 φ B a w f1 f3
    obtain ⟨l, h7, h8⟩ := resL_some (lo := lo) h6
    obtain ⟨v, h9, h10⟩ := results_ok (P := P) (fn := fn) h4 h7
    obtain ⟨vs, v1, v2, v3⟩ := h8 φ B a w f1 f3
    obtain ⟨v', e, q⟩ := h10 φ a.tmps w vs v1 v2 v3
    refine ⟨by have := f1.df; rw [hu] at this; exact this, ?_⟩
    unfold isTrueR at h9
    split at h9
    · have : v' = .bool true := q
      rw [e, this]
    · cases h9
  have key : (x = .normal ∨ x = .ret) ∧ getT (path dt fn.ntmps) t' = .u ∧ (resL P dt fn.ntmps fn.results.toList).run t' hp' (fun l => oneOf l (isTrueR hp')) = some r := by
    unfold stTrue at h3
    split at h3
    · rename_i hu; exact ⟨.inl rfl, hu, h3⟩
    · rename_i hu; exact ⟨.inr rfl, hu, h3⟩
    · cases h3
  obtain ⟨hx, hu, hres⟩ := key
  intro φ B a w g1 g2 g3 Q hQ
  refine h5 φ B a w g1 g2 g3 Q fun ψ a' w' x' f0 f1 f2 f3 => ?_
  obtain ⟨q1, q2⟩ := fin hu hres ψ B a' w' f1 f3
  refine hQ x' a' w' ?_ q1 q2 (Step.below g3 f2)
  rcases hx with e | e
  · subst e; exact .inl f0
  · subst e; exact .inr f0
end
end Go.Proofs.YtknjkljigmepjaaGreatDoor.Clo
end
section
namespace Go.Proofs.YtknjkljigmepjaaGreatDoor.Clo
open Go.RowKit
set_option linter.unusedVariables false
set_option linter.unusedSimpArgs false
set_option linter.constructorNameAsVariable false
variable [Tabs]
def sh (G b : Nat) (r : Id) : Id := path DB (Nat.add (Nat.sub (num r) G) b)
noncomputable def AV.ren (f : Id → Id) (x : AV) : AV :=
  AV.rec (motive := fun _ => AV) .u .nil (fun _ _ a b => .cons a b) .inil (fun t _ a => .ifc t a) .fnil (fun g _ _ a c => .fn g a c) .mn (fun r => .mp (f r)) (fun _ a => .tu a) (fun _ a => .ag a) .sn (fun r o n c => .sl (f r) o n c) (fun r o n z => .sg (f r) o n z) (fun r q z => .se (f r) q z) (fun r => .yd (f r)) (fun r => .ch (f r)) .pn (fun r o => .p (f r) o) (fun l => .s l) (fun x => .b x) (fun k n => .i k n) x
def AV.ids (q : Id → Bool) : AV → Bool
  | .cons x r => x.ids q && r.ids q
  | .ifc _ x => x.ids q
  | .fn _ a c => a.ids q && c.ids q
  | .mp r => q r
  | .tu l => l.ids q
  | .ag l => l.ids q
  | .sl r _ _ _ => q r
  | .sg r _ _ _ => q r
  | .se r _ _ => q r
  | .yd r => q r
  | .ch r => q r
  | .p r _ => q r
  | _ => true
theorem says_ren {φ' ψ : Id → Option Plc} {f : Id → Id} {q : Id → Bool} (h : ∀ r, q r = true → φ' (f r) = ψ r) : ∀ x : AV, x.ids q = true → (x.ren f).says φ' = x.says ψ := by
  intro x
  induction x with
  | cons x r hx hr =>
    intro hi
    simp only [AV.ids, Bool.and_eq_true] at hi
    show AV.says φ' (.cons (x.ren f) (r.ren f)) = _
    simp only [AV.says, hx hi.1, hr hi.2]
  | ifc t x hx => intro hi; show AV.says φ' (.ifc t (x.ren f)) = _; simp only [AV.says, hx hi]
  | fn g a c ha hc =>
    intro hi
    simp only [AV.ids, Bool.and_eq_true] at hi
    show AV.says φ' (.fn g (a.ren f) (c.ren f)) = _
    simp only [AV.says, ha hi.1, hc hi.2]
  | mp r => intro hi; show AV.says φ' (.mp (f r)) = _; simp only [AV.says, h r hi]
  | tu l hl => intro hi; show AV.says φ' (.tu (l.ren f)) = _; simp only [AV.says, hl hi]
  | ag l hl => intro hi; show AV.says φ' (.ag (l.ren f)) = _; simp only [AV.says, hl hi]
  | sl r o n c => intro hi; show AV.says φ' (.sl (f r) o n c) = _; simp only [AV.says, h r hi]
  | sg r o n z => intro hi; show AV.says φ' (.sg (f r) o n z) = _; simp only [AV.says, h r hi]
  | se r o z => intro hi; show AV.says φ' (.se (f r) o z) = _; simp only [AV.says, h r hi]
  | yd r => intro hi; show AV.says φ' (.yd (f r)) = _; simp only [AV.says, h r hi]
  | ch r => intro hi; show AV.says φ' (.ch (f r)) = _; simp only [AV.says, h r hi]
  | p r o => intro hi; show AV.says φ' (.p (f r) o) = _; simp only [AV.says, h r hi]
  | _ => intro hi; rfl
def okRow (q : Id → Bool) : Blk → Bool
  | .row _ _ _ ro cells => !ro && cells.ids q
  | _ => false
noncomputable def Blk.ren (f : Id → Id) : Blk → Blk
  | .row t g z ro c => .row t g z ro (c.ren f)
  | b => b
theorem Blk.ren_says {φ' ψ : Id → Option Plc} {f : Id → Id} {q : Id → Bool} (h : ∀ r, q r = true → φ' (f r) = ψ r) {b : Blk} {K : Nat × Nat} {o : Obj} (hb : okRow q b = true) (k : b.says ψ K o) : (b.ren f).says φ' K o := by
  cases b with
  | row t g z ro c =>
    simp only [okRow, Bool.and_eq_true] at hb
    obtain ⟨cs, pre, l, rest, m, h1, h2, h3, h4⟩ := k
    refine ⟨cs, pre, l, rest, m, h1, h2, ?_, h4⟩
    show ((c.ren f).says φ').2 l
    rw [says_ren h c hb.2]
    exact h3
  | _ => cases hb
theorem Blk.ren_ro {f : Id → Id} {q : Id → Bool} {b : Blk} (hb : okRow q b = true) : b.ro = false ∧ (b.ren f).ro = false := by
  cases b with
  | row t g z ro c =>
    simp only [okRow, Bool.and_eq_true, Bool.not_eq_true'] at hb
    exact ⟨hb.1, hb.1⟩
  | _ => cases hb
noncomputable def addB (f : Id → Id) (l : List (Nat × Blk)) : Mem → Mem :=
  List.rec (motive := fun _ => Mem → Mem) (fun m => m) (fun p _ ih m => ih (m.set (f (path DB p.1)) (p.2.ren f))) l
theorem addB_get {f : Id → Id} : ∀ {l : List (Nat × Blk)} {m : Mem} {q : Id} {x : Blk}, (addB f l m).get q = some x → (∃ p ∈ l, q = f (path DB p.1) ∧ x = p.2.ren f) ∨ m.get q = some x
  | [], m, q, x, h => .inr h
  | p :: l, m, q, x, h => by
    have h' : (addB f l (m.set (f (path DB p.1)) (p.2.ren f))).get q = some x := h
    rcases addB_get h' with ⟨p', h1, h2⟩ | h1
    · exact .inl ⟨p', by simp [h1], h2⟩
    · by_cases e : q = f (path DB p.1)
      · subst e
        rw [T4.get_set_same] at h1
        cases h1
        exact .inl ⟨p, by simp, rfl, rfl⟩
      · exact .inr (T4.get_of_set _ _ _ _ _ h1 e)
theorem addB_old {f : Id → Id} : ∀ {l : List (Nat × Blk)} {m : Mem} {q : Id}, (∀ p ∈ l, q ≠ f (path DB p.1) ∧ (f (path DB p.1)).length = q.length) → (addB f l m).get q = m.get q
  | [], m, q, h => rfl
  | p :: l, m, q, h => by
    have h1 := h p (by simp)
    have h2 : (addB f l (m.set (f (path DB p.1)) (p.2.ren f))).get q = (m.set (f (path DB p.1)) (p.2.ren f)).get q := addB_old fun p' hp' => h p' (by simp [hp'])
    show (addB f l (m.set (f (path DB p.1)) (p.2.ren f))).get q = _
    rw [h2]
    exact T4.get_set_other _ _ _ _ h1.2 h1.1
def inR (G n : Nat) (r : Id) : Bool := sameId r (path DB (num r)) && (Nat.ble G (num r) && Nat.blt (num r) (Nat.add G n))
theorem inR_ok {G n : Nat} {r : Id} (h : inR G n r = true) : r = path DB (num r) ∧ G ≤ num r ∧ num r < G + n := by
  simp only [inR, Bool.and_eq_true] at h
  exact ⟨sameId_eq h.1, Nat.le_of_ble_eq_true h.2.1, by simpa [Nat.blt_eq] using h.2.2⟩
section
variable {φ ψ : Id → Option Plc} {sts : List Site} {B : Bse sts} {m m1 : Mem} {nx nx1 : Id} {w w' : World} {G n : Nat}
theorem WR.join (hw : WR φ B m nx w) (hb : Below w.heap.size w w') (h1 : WR ψ (⟨w.heap.size, []⟩ : Bse []) m1 nx1 w') {L : List (Nat × Blk)} (hL : ∀ p ∈ L, m1.get (path DB p.1) = some p.2)
    (hok : ∀ p ∈ L, okRow (inR G n) p.2 = true ∧ inR G n (path DB p.1) = true) (hcap : num nx + n < 4 ^ DB) :
    ∃ φ', (∀ r, inR G n r = true → φ' (sh G (num nx) r) = ψ r) ∧ WR φ' B (addB (sh G (num nx)) L m) (path DB (num nx + n)) w' ∧ Step φ m nx w φ' (addB (sh G (num nx)) L m) (path DB (num nx + n)) w' := by
  have hnum : num (path DB (num nx + n)) = num nx + n := num_path DB _ hcap
  have shn : ∀ r, inR G n r = true → num (sh G (num nx) r) = num r - G + num nx := fun r hr => by
    obtain ⟨_, h2, h3⟩ := inR_ok hr
    exact num_path DB _ (by show num r - G + num nx < _; omega)
  have shl : ∀ r, (sh G (num nx) r).length = DB := fun r => path_len _ _
  let φ' : Id → Option Plc := fun q => if num nx ≤ num q ∧ q.length = DB ∧ num q < num nx + n then ψ (path DB (num q - num nx + G)) else φ q
  have hA : ∀ r, inR G n r = true → φ' (sh G (num nx) r) = ψ r := fun r hr => by
    obtain ⟨e, h2, h3⟩ := inR_ok hr
    have h4 := shn r hr
    show (if _ then _ else _) = _
    rw [if_pos ⟨by omega, shl r, by omega⟩, h4, show num r - G + num nx - num nx + G = num r from by omega, ← e]
  have hO : ∀ q, num q < num nx → φ' q = φ q := fun q hq => by
    show (if _ then _ else _) = _
    rw [if_neg (by omega)]
  have hm : More φ φ' := fun q g e => by
    have := (hw.fresh q (.inr (by rw [e]; simp))).2
    rw [hO q this]
    exact e
  have hN : ∀ q g, φ' q = some g → num nx ≤ num q → q.length = DB ∧ num q < num nx + n ∧ ψ (path DB (num q - num nx + G)) = some g := fun q g e hq => by
    have e' : (if num nx ≤ num q ∧ q.length = DB ∧ num q < num nx + n then ψ (path DB (num q - num nx + G)) else φ q) = some g := e
    split at e'
    · rename_i hc; exact ⟨hc.2.1, hc.2.2, e'⟩
    · have := (hw.fresh q (.inr (by rw [e']; simp))).2; omega
  have hB : ∀ q x, (addB (sh G (num nx)) L m).get q = some x → (num q < num nx ∧ m.get q = some x) ∨ ∃ p ∈ L, q = sh G (num nx) (path DB p.1) ∧ x = p.2.ren (sh G (num nx)) := fun q x e => by
    rcases addB_get e with h2 | h2
    · exact .inr h2
    · exact .inl ⟨(hw.fresh q (.inl (by rw [h2]; simp))).2, h2⟩
  have new_at : ∀ p ∈ L, ∀ g, φ' (sh G (num nx) (path DB p.1)) = some g → ψ (path DB p.1) = some g := fun p hp g e => by rw [hA _ (hok p hp).2] at e; exact e
  have new_num : ∀ p ∈ L, num nx ≤ num (sh G (num nx) (path DB p.1)) := fun p hp => by rw [shn _ (hok p hp).2]; omega
  have new_ge : ∀ p ∈ L, ∀ g, ψ (path DB p.1) = some g → w.heap.size ≤ g.1 := fun p hp g e => h1.base _ _ _ (hL p hp) (Blk.ren_ro (f := id) (hok p hp).1).1 e
  have hblk : ∀ j, j < w.heap.size → w'.heap[j]? = w.heap[j]? := fun j hj => hb.block j hj
  have hlk : LK w w' := LK.same hblk
  refine ⟨φ', hA, ⟨path_len _ _, fun q hq => ?_, fun q x g hq hg => ?_, fun q q' x x' g g' hq hq' hg hg' hgg => ?_, fun q g hg => ?_, fun q x g hq hx hg => ?_, Nat.le_trans hw.bsz hb.size, hw.loops.mono hm hlk, hw.tabs.keep fun j hj => hblk j (Nat.lt_of_lt_of_le hj hw.bsz)⟩,
    ⟨hm, hb.os, hb.tape, hb.output, hb.size, fun g hg _ => hblk g hg, fun g hg ⟨q, x, g', e1, e2, e3, e4⟩ => ?_, fun r x hr hn => ?_, by rw [hnum]; omega, fun r hl hr => hO r hr, hlk⟩⟩
  · rw [hnum]
    by_cases hlt : num q < num nx
    · have : m.get q ≠ none ∨ φ q ≠ none := by
        rcases hq with hq | hq
        · cases e : (addB (sh G (num nx)) L m).get q with
          | none => exact absurd e hq
          | some x =>
            rcases hB q x e with ⟨_, h2⟩ | ⟨p, hp, rfl, _⟩
            · left; rw [h2]; simp
            · have := new_num p hp; omega
        · right; rw [hO q hlt] at hq; exact hq
      exact ⟨(hw.fresh q this).1, by omega⟩
    · rcases hq with hq | hq
      · cases e : (addB (sh G (num nx)) L m).get q with
        | none => exact absurd e hq
        | some x =>
          rcases hB q x e with ⟨h2, _⟩ | ⟨p, hp, rfl, _⟩
          · omega
          · obtain ⟨_, h3, h4⟩ := inR_ok (hok p hp).2
            exact ⟨shl _, by rw [shn _ (hok p hp).2]; omega⟩
      · cases e : φ' q with
        | none => exact absurd e hq
        | some g =>
          obtain ⟨h2, h3, _⟩ := hN q g e (by omega)
          exact ⟨h2, h3⟩
  · rcases hB q x hq with ⟨hlt, h2⟩ | ⟨p, hp, rfl, rfl⟩
    · rw [hO q hlt] at hg
      obtain ⟨o, h3, h4⟩ := hw.blk q x g h2 hg
      exact ⟨o, (hblk _ (hw.lt q g hg)).trans h3, Blk.says_more hm h4⟩
    · obtain ⟨o, h3, h4⟩ := h1.blk _ _ g (hL p hp) (new_at p hp g hg)
      exact ⟨o, h3, Blk.ren_says hA (hok p hp).1 h4⟩
  · rcases hB q x hq with ⟨hlt, h2⟩ | ⟨p, hp, rfl, rfl⟩
    · rw [hO q hlt] at hg
      rcases hB q' x' hq' with ⟨hlt', h2'⟩ | ⟨p', hp', rfl, rfl⟩
      · rw [hO q' hlt'] at hg'
        exact hw.inj q q' x x' g g' h2 h2' hg hg' hgg
      · have h3 := new_ge p' hp' g' (new_at p' hp' g' hg')
        have h4 := hw.lt q g hg
        omega
    · have h3 := new_ge p hp g (new_at p hp g hg)
      rcases hB q' x' hq' with ⟨hlt', h2'⟩ | ⟨p', hp', rfl, rfl⟩
      · rw [hO q' hlt'] at hg'
        have h4 := hw.lt q' g' hg'
        omega
      · have := h1.inj _ _ _ _ g g' (hL p hp) (hL p' hp') (new_at p hp g hg) (new_at p' hp' g' hg') hgg
        rw [this]
  · by_cases hlt : num q < num nx
    · rw [hO q hlt] at hg
      exact Nat.lt_of_lt_of_le (hw.lt q g hg) hb.size
    · obtain ⟨_, _, h3⟩ := hN q g hg (by omega)
      exact h1.lt _ g h3
  · rcases hB q x hq with ⟨hlt, h2⟩ | ⟨p, hp, rfl, rfl⟩
    · rw [hO q hlt] at hg
      exact hw.base q x g h2 hx hg
    · exact Nat.le_trans hw.bsz (new_ge p hp g (new_at p hp g hg))
  · rcases hB q x e1 with ⟨hlt, h2⟩ | ⟨p, hp, rfl, rfl⟩
    · rw [hO q hlt] at e3
      exact ⟨q, x, g', h2, e2, e3, e4⟩
    · have := new_ge p hp g' (new_at p hp g' e3)
      omega
  · have hf := hw.fresh r (.inl (by rw [hr]; simp))
    refine ⟨?_, by rw [hO r hf.2]; exact hn⟩
    rw [addB_old fun p hp => ⟨fun e => ?_, by rw [shl]; exact hf.1.symm⟩]
    · exact hr
    · have := new_num p hp
      rw [← e] at this
      omega
end
structure MB where
  v : AV
  mem : List (Nat × Blk)
  n : Nat
inductive BTree where
  | leaf
  | node (l : BTree) (k : Nat) (args : AV) (e : MB) (r : BTree)
noncomputable def BTree.find (n : Nat) (args : AV) (T : BTree) : Option MB :=
  BTree.rec (motive := fun _ => Option MB) none (fun _ j a v _ ihl ihr => Bool.rec (motive := fun _ => Option MB) (Bool.rec (motive := fun _ => Option MB) (Bool.rec (motive := fun _ => Option MB) none (some v) (a.same args)) ihr (Nat.blt j n)) ihl (Nat.blt n j)) T
noncomputable def BTree.all (Q : AV → MB → Bool) : BTree → Bool
  | .leaf => true
  | .node l _ a v r => l.all Q && (Q a v && r.all Q)
theorem BTree.all_node {Q : AV → MB → Bool} {l r : BTree} {k : Nat} {a : AV} {v : MB} (h1 : l.all Q = true) (h2 : Q a v = true) (h3 : r.all Q = true) : (BTree.node l k a v r).all Q = true := by
  simp only [BTree.all, h1, h2, h3, Bool.and_self]
theorem MTree.all_node {Q : AV → AV → Bool} {l r : MTree} {k : Nat} {a v : AV} (h1 : l.all Q = true) (h2 : Q a v = true) (h3 : r.all Q = true) : (MTree.node l k a v r).all Q = true := by
  simp only [MTree.all, h1, h2, h3, Bool.and_self]
theorem BTree.find_some {Q : AV → MB → Bool} {n : Nat} {args : AV} {v : MB} : ∀ {T : BTree}, T.all Q = true → T.find n args = some v → Q args v = true
  | .leaf, _, h => by cases h
  | .node l j a u r, h, k => by
    simp only [BTree.all, Bool.and_eq_true] at h
    have k' : (Bool.rec (motive := fun _ => Option MB) (Bool.rec (motive := fun _ => Option MB) (Bool.rec (motive := fun _ => Option MB) none (some u) (a.same args)) (r.find n args) (Nat.blt j n)) (l.find n args) (Nat.blt n j) : Option MB) = some v := k
    cases h1 : Nat.blt n j with
    | true => rw [h1] at k'; exact BTree.find_some h.1 k'
    | false =>
      rw [h1] at k'
      cases h2 : Nat.blt j n with
      | true => rw [h2] at k'; exact BTree.find_some h.2.2 k'
      | false =>
        rw [h2] at k'
        cases h3 : a.same args with
        | false => rw [h3] at k'; cases k'
        | true =>
          rw [h3] at k'
          have := AV.same_eq h3
          cases k'
          subst this
          exact h.2.1
section
variable {P : Program} {G : Nat}
noncomputable def runB (T : FTree P G) (fuel : Nat) (f : FuncId) (args : AV) (e : MB) : Bool := match runC T fuel f args with
  | some (v, .mk m1 _) => eqA v e.v && memOk m1 e.mem
  | none => false
noncomputable def knownB (T : FTree P G) (fuel : Nat) (f : FuncId) (args : AV) (e : MB) : Bool :=
  args.plain && (e.v.ids (inR G e.n) && ((e.mem.all fun p => okRow (inR G e.n) p.2 && inR G e.n (path DB p.1)) && runB T fuel f args e))
theorem calls_of_runB {T : FTree P G} {fuel : Nat} {f : FuncId} {args v : AV} {hp : HP} (hG : okG G = true) (hc : ∀ (ars : Array Value) w, (callFunc f ars).run P w = .ok (.enter f ars) w) (h : runC T fuel f args = some (v, hp))
    (w : World) (hw : G ≤ w.heap.size) (ht : TabsR w.heap.size w) (ars : Array Value) (ha : ∀ φ, VL φ args ars.toList) : Calls P f ars w fun e w' => ∃ v', e = .returned v' ∧ ∃ ψ, VR ψ v v' ∧ WR ψ (⟨w.heap.size, []⟩ : Bse []) hp.m hp.nx w' ∧ Below w.heap.size w w' := by
  rcases (hd0_ok T fuel).c f args _ _ _ _ h with ⟨v1, hp1, h1, h2⟩ | ⟨v1, hp1, h1, h2⟩
  · cases h1
    have h0 : WH (glob G) (⟨w.heap.size, []⟩ : Bse []) (.mk (mkMem Tabs.m) (path DB G)) w := glob_start hG hw ht
    rcases h2 (glob G) ⟨w.heap.size, []⟩ w ars (fun g hg => ⟨_, glob_at (okG_lt hG) hg⟩) h0 (ha _) with ⟨_, h3⟩ | ⟨v2, w2, h3, _⟩
    · refine h3.mono fun e w' ⟨v', e1, ψ, h4, h5, h6⟩ => ⟨v', e1, ψ, h4, h6, ?_⟩
      exact Step.below h0 h5
    · rw [hc ars w] at h3
      cases h3
  · cases h1
noncomputable def Ent.blocks {T : FTree P G} {fuel : Nat} (e : Ent P G) (M : BTree) (hG : okG G = true) (hc : ∀ (ars : Array Value) w, (callFunc e.f ars).run P w = .ok (.enter e.f ars) w) (h : M.all (knownB T fuel e.f) = true) : Ent P G :=
  ⟨e.f, .mk fun hd args hp k kp => Option.rec (motive := fun _ => R) (e.m.run hd args hp k kp) (fun b => HP.rec (motive := fun _ => R) (fun m nx => Bool.rec (motive := fun _ => R) none (k (b.v.ren (sh G (num nx))) (.mk (addB (sh G (num nx)) b.mem m) (path DB (Nat.add (num nx) b.n)))) (Nat.blt (Nat.add (num nx) b.n) 65536)) hp) (M.find (args.key 1) args), e.d, (fun hd hok args hp k kp r hr => by
    cases hp with
    | mk m nx =>
    have hr' : (Option.rec (motive := fun _ => R) (e.m.run hd args (.mk m nx) k kp) (fun b => Bool.rec (motive := fun _ => R) none (k (b.v.ren (sh G (num nx))) (.mk (addB (sh G (num nx)) b.mem m) (path DB (Nat.add (num nx) b.n)))) (Nat.blt (Nat.add (num nx) b.n) 65536)) (M.find (args.key 1) args) : R) = some r := hr
    cases hf : M.find (args.key 1) args with
    | none => rw [hf] at hr'; exact e.ok hd hok args _ k kp r hr'
    | some b =>
      rw [hf] at hr'
      have hr2 : (Bool.rec (motive := fun _ => R) none (k (b.v.ren (sh G (num nx))) (.mk (addB (sh G (num nx)) b.mem m) (path DB (Nat.add (num nx) b.n)))) (Nat.blt (Nat.add (num nx) b.n) 65536) : R) = some r := hr'
      cases hcap : Nat.blt (Nat.add (num nx) b.n) 65536 with
      | false => rw [hcap] at hr2; cases hr2
      | true =>
      rw [hcap] at hr2
      have hcap' : num nx + b.n < 4 ^ DB := by
        rw [show 4 ^ DB = 65536 from by decide]
        simpa [Nat.blt_eq] using hcap
      have hk := BTree.find_some h hf
      simp only [knownB, Bool.and_eq_true] at hk
      obtain ⟨p1, p2, p3, p4⟩ := hk
      unfold runB at p4
      split at p4
      · rename_i v' m1 nx1 hrun
        simp only [Bool.and_eq_true] at p4
        have hv := eqA_eq p4.1
        subst hv
        have hL := memOk_all p4.2
        have hok2 : ∀ p ∈ b.mem, okRow (inR G b.n) p.2 = true ∧ inR G b.n (path DB p.1) = true := fun p hp => by
          have := List.all_eq_true.1 p3 p hp
          simpa only [Bool.and_eq_true] using this
        refine .inl ⟨_, _, hr2, fun φ B w ars g1 hw hargs => .inl ⟨hc ars w, ?_⟩⟩
        have hw' : WR φ B m nx w := hw
        refine (calls_of_runB hG hc hrun w (g1.size hw') hw'.tabsW ars fun ψ => ?_).mono fun e' w' ⟨u, e1, ψ, h1, h2, h3⟩ => ?_
        · show (args.says ψ).2 _
          rw [AV.plain_says (ψ := φ) p1]
          exact hargs
        · obtain ⟨φ', s1, s2, s3⟩ := WR.join (G := G) (n := b.n) hw' h3 h2 hL hok2 hcap'
          refine ⟨u, e1, φ', ?_, s3, s2⟩
          show ((b.v.ren (sh G (num nx))).says φ').1 u
          rw [says_ren s1 b.v p2]
          exact h1
      · cases p4), e.okD, true, fun _ => hc⟩
end
end Go.Proofs.YtknjkljigmepjaaGreatDoor.Clo
end
section
namespace Go.Proofs.YtknjkljigmepjaaGreatDoor.Clo
variable [Tabs]
theorem and_l {a b : Bool} (h : (a && b) = true) : a = true := (Bool.and_eq_true _ _ ▸ h).1
theorem and_r {a b : Bool} (h : (a && b) = true) : b = true := (Bool.and_eq_true _ _ ▸ h).2
end Go.Proofs.YtknjkljigmepjaaGreatDoor.Clo
end
section
namespace Go.Proofs.YtknjkljigmepjaaGreatDoor.Clo
open Go.RowKit
set_option linter.unusedVariables false
set_option linter.unusedSimpArgs false
set_option linter.constructorNameAsVariable false
variable [Tabs]
noncomputable def cntF (c : Nat) (l : List Nat) : Nat := List.rec (motive := fun _ => Nat) 0 (fun x _ ih => Bool.rec (motive := fun _ => Nat) ih (Nat.succ ih) (Nat.beq x c)) l
theorem cntF_eq {c : Nat} (hc : c < 256) : ∀ {l : List Nat}, B256 l → cntF c l = Lib.countByte (l.map UInt8.ofNat) (UInt8.ofNat c)
  | [], _ => rfl
  | x :: l, hb => by
    have hx := hb x (by simp)
    have ih := cntF_eq hc (l := l) fun y hy => hb y (by simp [hy])
    show (Bool.rec (motive := fun _ => Nat) (cntF c l) (Nat.succ (cntF c l)) (Nat.beq x c) : Nat) = _
    unfold Lib.countByte at ih ⊢
    rw [List.map_cons, List.count_cons, ih]
    cases h : Nat.beq x c with
    | true =>
      have := Nat.eq_of_beq_eq_true h
      subst this
      simp
    | false =>
      have hne : (UInt8.ofNat x == UInt8.ofNat c) = false := Bool.eq_false_iff.2 fun hh => by
        have := ofNat_inj hx hc (by simpa using hh)
        subst this
        rw [Nat.beq_refl] at h
        cases h
      simp [hne]
noncomputable def preF (b : List Nat) : List Nat → Bool :=
  List.rec (motive := fun _ => List Nat → Bool) (fun _ => true) (fun x _ ih a => match a with | y :: r => Bool.rec (motive := fun _ => Bool) false (ih r) (Nat.beq x y) | [] => false) b
noncomputable def idxF (b : List Nat) (a : List Nat) : Nat → Int :=
  List.rec (motive := fun _ => Nat → Int) (fun i => Bool.rec (motive := fun _ => Int) (-1) (Int.ofNat i) (preF b [])) (fun x r ih i => Bool.rec (motive := fun _ => Int) (ih (Nat.succ i)) (Int.ofNat i) (preF b (x :: r))) a
theorem preF_eq : ∀ {b a : List Nat}, B256 b → B256 a → preF b a = (b.map UInt8.ofNat).isPrefixOf (a.map UInt8.ofNat)
  | [], a, _, _ => by simp [preF]
  | x :: b, [], _, _ => rfl
  | x :: b, y :: a, hb, ha => by
    have ih := preF_eq (b := b) (a := a) (fun z hz => hb z (by simp [hz])) fun z hz => ha z (by simp [hz])
    show (Bool.rec (motive := fun _ => Bool) false (preF b a) (Nat.beq x y) : Bool) = _
    rw [List.map_cons, List.map_cons, List.isPrefixOf, ← ih]
    cases h : Nat.beq x y with
    | true =>
      have := Nat.eq_of_beq_eq_true h
      subst this
      simp
    | false =>
      have hne : (UInt8.ofNat x == UInt8.ofNat y) = false := Bool.eq_false_iff.2 fun hh => by
        have := ofNat_inj (hb x (by simp)) (ha y (by simp)) (by simpa using hh)
        subst this
        rw [Nat.beq_refl] at h
        cases h
      simp [hne]
theorem idxF_eq {b : List Nat} (hb : B256 b) : ∀ {a : List Nat} (i : Nat), B256 a → idxF b a i = if Lib.index (a.map UInt8.ofNat) (b.map UInt8.ofNat) = -1 then -1 else Lib.index (a.map UInt8.ofNat) (b.map UInt8.ofNat) + i
  | [], i, _ => by
    show (Bool.rec (motive := fun _ => Int) (-1) (Int.ofNat i) (preF b []) : Int) = _
    rw [preF_eq hb (fun _ h => by cases h)]
    cases b with
    | nil => simp [Lib.index]
    | cons x b => simp [Lib.index]
  | x :: a, i, ha => by
    have ih := idxF_eq hb (a := a) (Nat.succ i) fun z hz => ha z (by simp [hz])
    show (Bool.rec (motive := fun _ => Int) (idxF b a (Nat.succ i)) (Int.ofNat i) (preF b (x :: a)) : Int) = _
    have hge := Lib.index_ge (a.map UInt8.ofNat) (b.map UInt8.ofNat)
    rw [preF_eq hb ha, ih, List.map_cons, show Lib.index (UInt8.ofNat x :: a.map UInt8.ofNat) (b.map UInt8.ofNat) = (if (b.map UInt8.ofNat).isPrefixOf (UInt8.ofNat x :: a.map UInt8.ofNat) then 0 else if Lib.index (a.map UInt8.ofNat) (b.map UInt8.ofNat) == -1 then -1 else Lib.index (a.map UInt8.ofNat) (b.map UInt8.ofNat) + 1) from rfl]
    generalize Lib.index (a.map UInt8.ofNat) (b.map UInt8.ofNat) = z at hge ⊢
    have hi : ((Nat.succ i : Nat) : Int) = i + 1 := rfl
    cases h : (b.map UInt8.ofNat).isPrefixOf (UInt8.ofNat x :: a.map UInt8.ofNat) with
    | true => simp
    | false =>
      simp only [Bool.false_eq_true, if_false]
      by_cases hm : z = -1
      · simp [hm]
      · have hm' : (z == -1) = false := by simpa using hm
        simp only [hm, hm', if_false, Bool.false_eq_true]
        rw [if_neg (by omega), hi]
        omega
section
variable {P : Program} {G : Nat}
variable {f : FuncId} {fn : Func}
noncomputable def entCount (hf : P.funcs[f]? = some fn) (hname : (fn.name == "runtime.NumGoroutine") = false) (hb : fn.body.isNone = true) (hn : Extern.findNext fn = none) (he : Extern.find fn = some Extern.BytealgCount.count) : Ent P G :=
  .sum f (fun args hp k => match args with
    | .cons (.s l) (.cons (.i .u8 (.ofNat c)) .nil) => match Nat.blt c 256 with
      | true => k (.i .i64 (Int.ofNat (cntF c l))) hp
      | false => none
    | _ => none) (fun args hp k r hr => by
    split at hr
    · rename_i l c
      split at hr
      · rename_i hc
        have hc' : c < 256 := by simpa [Nat.blt_eq] using hc
        refine ⟨_, hp, hr, fun φ B w ars g1 hw hargs => ?_⟩
        obtain ⟨v, u, rfl, ⟨e1, b1⟩, e2⟩ := args2 hargs
        have e2' : u = .int .u8 (Int.ofNat c) := e2
        subst e1 e2'
        refine .inr ⟨.int .i64 (Int.ofNat (cntF c l)), w, ?_, φ, rfl, Step.refl, hw⟩
        rw [run_callFunc_extern hf hname hb hn he]
        rw [show (#[Value.string (bytesOf l), Value.int .u8 (Int.ofNat c)] : Array Value) = #[.string (bytesOf l), .int .u8 ((c : Nat) : Int)] from rfl, Lib.run_countString]
        have e3 : (bytesOf l).data.toList = l.map UInt8.ofNat := by simp [bytesOf]
        have e4 : ((c : Nat) : Int).toNat.toUInt8 = UInt8.ofNat c := by rw [Int.toNat_natCast]
        rw [e3, e4, cntF_eq hc' b1]
        rfl
      · cases hr
    · cases hr)
noncomputable def entIndex (g : Nat) (hm : (g, Blk.num .i64) ∈ Tabs.m) (hc : ∀ (ars : Array Value) w, (callFunc f ars).run P w = .ok (.enter f ars) w)
    (hidx : ∀ (s sub : ByteArray) (m : Int) (w : World), s.size < 4294967281 → w.cell? ⟨g, 0, none⟩ = some (.int .i64 m) → Calls P f #[.string s, .string sub] w fun e w' => e = .returned (.int .i64 (Lib.index s.data.toList sub.data.toList)) ∧ w' = w) : Ent P G :=
  .sum f (fun args hp k => match args with
    | .cons (.s l) (.cons (.s b) .nil) => match Nat.ble (lenL l) 1000000 with
      | true => k (.i .i64 (idxF b l 0)) hp
      | false => none
    | _ => none) (fun args hp k r hr => by
    split at hr
    · rename_i l b
      split at hr
      · rename_i hlen
        have hlen' : lenL l ≤ 1000000 := Nat.le_of_ble_eq_true hlen
        refine ⟨_, hp, hr, fun φ B w ars g1 hw hargs => ?_⟩
        obtain ⟨v, u, rfl, ⟨e1, b1⟩, e2, b2⟩ := args2 hargs
        subst e1 e2
        obtain ⟨_, _, o, h3, h4⟩ := hw.tabs _ hm
        obtain ⟨n, t, fr, h5⟩ := h4 φ
        subst h5
        have hcell : w.cell? ⟨g, 0, none⟩ = some (.int .i64 n) := by rw [cell_of_row w g 0 _ t fr h3]; rfl
        refine .inl ⟨hc _ w, (hidx (bytesOf l) (bytesOf b) n w (by rw [bytes_size, ← lenL_eq]; omega) hcell).mono fun e w' ⟨h6, h7⟩ => ?_⟩
        subst h7
        refine ⟨_, h6, φ, ?_, Step.refl, hw⟩
        have e3 : ∀ q, (bytesOf q).data.toList = q.map UInt8.ofNat := fun q => by simp [bytesOf]
        show (Value.int .i64 _) = .int .i64 _
        rw [e3, e3, idxF_eq b2 0 b1]
        congr 1
        split
        · rename_i hm1; rw [hm1]
        · simp
      · cases hr
    · cases hr)
noncomputable def Ent.pre (e : Ent P G) (F : AV → HP → KV → R → R) (h : ∀ args hp k els r, F args hp k els = some r → els = some r ∨ ∃ v hp', k v hp' = some r ∧ ∀ {sts : List Site} φ (B : Bse sts) w (ars : Array Value), Glo G φ → WH φ B hp w → VL φ args ars.toList → CallOk P e.f ars w (Aft φ B hp w v hp')) : Ent P G :=
  ⟨e.f, .mk fun hd args hp k kp => F args hp k (e.m.run hd args hp k kp), e.d, (fun hd hok args hp k kp r hr => by
    rcases h args hp k _ r hr with h1 | ⟨v, hp', h1, h2⟩
    · exact e.ok hd hok args hp k kp r h1
    · exact .inl ⟨v, hp', h1, fun φ B w ars => h2 φ B w ars⟩), e.okD, e.own, e.okE⟩
noncomputable def asF (tE tP : TypeId) (args : AV) (hp : HP) (k : KV) (els : R) : R := match args with
  | .cons (.ifc t (.i kd n)) (.cons (.ifc p (.p r q)) .nil) => match Nat.beq t tE, Nat.beq p tP, decide (kd = .i64) with
    | true, true, true => hp.on fun mem nx => onRow mem r fun t gr fz ro cells => match ro, okF fz q, Nat.blt q cells.len with
      | false, true, true => k (.b true) (.mk (mem.set r (.row t gr fz false (AV.setMany (.cons (.i .i64 n) .nil) q cells))) nx)
      | _, _, _ => none
    | _, _, _ => els
  | _ => els
noncomputable def Ent.as (e : Ent P G) (tE tP : TypeId) (g : Nat) (eT : Value) (hm : (g, Blk.fix eT) ∈ Tabs.m) (hc : ∀ (ars : Array Value) w, (callFunc e.f ars).run P w = .ok (.enter e.f ars) w)
    (has : ∀ (n : Int) (a : Addr) (old : Value) (w : World), w.cell? ⟨g, 0, none⟩ = some eT → w.cell? a = some old → w.frozen? a = false → a.spot = none → Calls P e.f #[.iface tE (.int .i64 n), .iface tP (.pointer (some a))] w fun ev w' => ev = .returned (.bool true) ∧ ∃ w4, Below w.heap.size w w4 ∧ w' = w4.setCell a (.int .i64 n)) : Ent P G :=
  e.pre (asF tE tP) (fun args hp k els r hr => by
    unfold asF at hr
    split at hr
    · rename_i t kd n p b q
      split at hr
      · rename_i h1 h2 h3
        have h1' := Nat.eq_of_beq_eq_true h1
        have h2' := Nat.eq_of_beq_eq_true h2
        have h3' : kd = .i64 := of_decide_eq_true h3
        subst h1' h2' h3'
        cases hp with
        | mk mem nx =>
        obtain ⟨t1, gr, fz, ro, cells, hme, h4⟩ := onRow_some (show onRow mem b _ = some r from hr)
        split at h4
        · rename_i hfz hlt
          have hlt' : q < cells.len := by simpa [Nat.blt_eq] using hlt
          refine .inr ⟨_, _, h4, fun φ B w ars g1 hw hargs => ?_⟩
          obtain ⟨v, u, rfl, ⟨v0, e1, e1'⟩, ⟨u0, e2, gp, hgp, e3⟩⟩ := args2 hargs
          subst e1 e2 e3
          have e1'' : v0 = .int .i64 n := e1'
          subst e1''
          have hw' : WR φ B mem nx w := hw
          obtain ⟨_, _, o, h5, h6⟩ := hw'.tabs _ hm
          obtain ⟨tt, fr, h7⟩ := h6 φ
          subst h7
          have hcell : w.cell? ⟨g, 0, none⟩ = some eT := by rw [cell_of_row w g 0 _ tt fr h5]; rfl
          obtain ⟨old, ho, _⟩ := RW.cell hw'.rw hme hgp hlt'
          have hfr : w.frozen? ⟨gp.1, gp.2.2 + q, none⟩ = false := by
            obtain ⟨c, pre, l, rest, m, d1, d2, d3, d4, d5, d6, d7⟩ := RW.row hw'.rw hme hgp
            have hno := okF_not (i := gp.2.2 + q) hfz d7 (by rw [← d5, ← Array.length_toList, d2, List.length_append, List.length_append, VL.len d3]; omega) (Nat.le_refl _)
            unfold World.frozen?
            rw [d1]
            simp only [Bool.and_eq_false_iff, decide_eq_false_iff_not]
            by_cases h1 : m.1 ≤ gp.2.2 + q
            · exact .inr fun h2 => hno ⟨h1, h2⟩
            · exact .inl h1
          refine .inl ⟨hc _ w, (has n ⟨gp.1, gp.2.2 + q, none⟩ old w hcell ho hfr rfl).mono fun e w' ⟨h8, w4, h9, h10⟩ => ?_⟩
          subst h10
          obtain ⟨s1, s2⟩ := hw'.below h9
          obtain ⟨_, s4, s5⟩ := WR.store (P := P) s1 hme hgp (y := .cons (.i .i64 n) .nil) (vs := [.int .i64 n]) ⟨_, _, rfl, rfl, rfl⟩ (o := q) (by simp only [List.length_cons, List.length_nil]; omega) hfz (fun v hv => by rw [List.mem_singleton.1 hv]; rfl)
          exact ⟨_, h8, φ, rfl, s2.trans s5, s4⟩
        · cases h4
      · exact .inl hr
    · exact .inl hr)
end
end Go.Proofs.YtknjkljigmepjaaGreatDoor.Clo
end
section
namespace Go.Proofs
open Go.Shelf
def Tryz.lays219_ren : Go.Shelf.Ren := ⟨fun | 219 => 180 | 217 => 290 | 225 => 291 | 224 => 292 | 267 => 293 | 266 => 376 | 314 => 377 | n => n, fun | 9 => 9 | 3 => 3 | 4 => 4 | 5 => 5 | 46 => 298 | 146 => 426 | 51 => 339 | n => n, fun | 1 => 1 | n => n⟩
theorem Tryz.lays219 : Go.Proofs.Lays.n219 Tryz.prog Tryz.lays219_ren := {
  mixed := by kernel_rfl
  f217 := Tryz.func290.trans (congrArg some (by kernel_rfl))
  f219 := Tryz.func180.trans (congrArg some (by kernel_rfl))
  f224 := Tryz.func292.trans (congrArg some (by kernel_rfl))
  f225 := Tryz.func291.trans (congrArg some (by kernel_rfl))
  f266 := Tryz.func376.trans (congrArg some (by kernel_rfl))
  f267 := Tryz.func293.trans (congrArg some (by kernel_rfl))
  f314 := Tryz.func377.trans (congrArg some (by kernel_rfl))
  t3 := Tryz.underlying3
  a3 := Tryz.isAgg3
  z3 := Tryz.sizeOf3
  v3 := Tryz.zeroValue3
  t4 := Tryz.underlying4
  a4 := Tryz.isAgg4
  z4 := Tryz.sizeOf4
  v4 := Tryz.zeroValue4
  t5 := Tryz.underlying5
  a5 := Tryz.isAgg5
  z5 := Tryz.sizeOf5
  v5 := Tryz.zeroValue5
  t9 := Tryz.underlying9
  a9 := Tryz.isAgg9
  z9 := Tryz.sizeOf9
  v9 := Tryz.zeroValue9
  t46 := Tryz.underlying298
  a46 := Tryz.isAgg298
  z46 := Tryz.sizeOf298
  v46 := Tryz.zeroValue298
  t51 := Tryz.underlying339
  a51 := Tryz.isAgg339
  z51 := Tryz.sizeOf339
  v51 := Tryz.zeroValue339
  t146 := Tryz.underlying426
  a146 := Tryz.isAgg426
  z146 := Tryz.sizeOf426
  v146 := Tryz.zeroValue426
  g1 := by kernel_rfl }
open Go.RowKit Go.Lib in
theorem Tryz.stringslite_Index (s sub : ByteArray) (m : Int) (w : World) (hs : s.size < 4294967281) (hm : w.cell? ⟨1, 0, none⟩ = some (.int .i64 m)) :
    Calls Tryz.prog 180 #[.string s, .string sub] w fun e w' => e = .returned (.int .i64 (Lib.index s.data.toList sub.data.toList)) ∧ w' = w := Any.stringslite_Index Tryz.lays219 s sub m w hs hm
end Go.Proofs
end
