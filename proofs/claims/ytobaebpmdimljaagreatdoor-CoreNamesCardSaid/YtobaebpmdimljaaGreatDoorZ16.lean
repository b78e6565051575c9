/- Part 16 of a proof laid in parts, one behind the other; no condition of its own. -/
import Derived.Test.YtobaebpmdimljaaGreatDoorZ15
set_option linter.all false
section
namespace Go.Proofs.YtobaebpmdimljaaGreatDoor.Clo
open Go.RowKit
set_option linter.unusedVariables false
set_option linter.unusedSimpArgs false
set_option linter.constructorNameAsVariable false
def flatC : Code → List Code
  | .seq a b => flatC a ++ flatC b
  | c => [c]
def behind (next : Act → World → Prop) (Q : Exit → Act → World → Prop) : Exit → Act → World → Prop
  | .normal, a, w => next a w
  | e, a, w => Q e a w
def wpL (P : Program) : List Code → (Exit → Act → World → Prop) → Act → World → Prop
  | [], Q, a, w => Q .normal a w
  | c :: l, Q, a, w => c.wp P (behind (wpL P l Q) Q) a w
section
variable {P : Program}
theorem wp_flat : ∀ (c : Code) (l : List Code) (Q : Exit → Act → World → Prop) (a : Act) (w : World), wpL P (flatC c ++ l) Q a w → c.wp P (behind (wpL P l Q) Q) a w := by
  intro c
  induction c with
  | seq x y ihx ihy =>
    intro l Q a w h
    unfold flatC at h
    rw [List.append_assoc] at h
    refine wp_seq (wp_mono (ihx _ _ _ _ h) fun e a w q => ?_)
    cases e with
    | normal => exact ihy _ _ _ _ q
    | _ => exact q
  | _ => exact fun l Q a w h => h
theorem wp_flat_all {c : Code} {Q : Exit → Act → World → Prop} {a : Act} {w : World} (h : wpL P (flatC c) Q a w) : c.wp P Q a w := by
  have := wp_flat c [] Q a w (by rw [List.append_nil]; exact h)
  refine wp_mono this fun e a w q => ?_
  cases e <;> exact q
theorem wpL_app : ∀ (l1 l2 : List Code) (Q : Exit → Act → World → Prop) (a : Act) (w : World), wpL P l1 (behind (wpL P l2 Q) Q) a w → wpL P (l1 ++ l2) Q a w
  | [], l2, Q, a, w, h => h
  | c :: l1, l2, Q, a, w, h => by
    refine wp_mono (show c.wp P _ a w from h) fun e a w q => ?_
    cases e with
    | normal => exact wpL_app l1 l2 Q a w q
    | _ => exact q
end
structure St where
  slots : List (Nat × AV)
  mem : List (Nat × Blk)
  nx : Nat
noncomputable def mkTr (dt : Nat) (l : List (Nat × AV)) : Tr := List.rec (motive := fun _ => Tr) .e (fun p _ ih => T4.set (path dt p.1) p.2 ih) l
noncomputable def mkMem (l : List (Nat × Blk)) : Mem := List.rec (motive := fun _ => Mem) .e (fun p _ ih => T4.set (path DB p.1) p.2 ih) l
theorem mem_get : ∀ {l : List (Nat × Blk)} {r : Id} {x : Blk}, (mkMem l).get r = some x → ∃ p ∈ l, r = path DB p.1 ∧ x = p.2
  | [], r, x, h => by rw [show mkMem [] = .e from rfl, T4.get_e] at h; cases h
  | p :: l, r, x, h => by
    have h' : (T4.set (path DB p.1) p.2 (mkMem l)).get r = some x := h
    by_cases e : r = path DB p.1
    · subst e
      rw [T4.get_set_same] at h'
      cases h'
      exact ⟨p, by simp, rfl, rfl⟩
    · obtain ⟨q, h1, h2⟩ := mem_get (T4.get_of_set _ _ _ _ _ h' e)
      exact ⟨q, by simp [h1], h2⟩
theorem tr_get {dt : Nat} : ∀ {l : List (Nat × AV)} {r : Id} {x : AV}, (mkTr dt l).get r = some x → ∃ p ∈ l, r = path dt p.1 ∧ x = p.2
  | [], r, x, h => by rw [show mkTr dt [] = .e from rfl, T4.get_e] at h; cases h
  | p :: l, r, x, h => by
    have h' : (T4.set (path dt p.1) p.2 (mkTr dt l)).get r = some x := h
    by_cases e : r = path dt p.1
    · subst e
      rw [T4.get_set_same] at h'
      cases h'
      exact ⟨p, by simp, rfl, rfl⟩
    · obtain ⟨q, h1, h2⟩ := tr_get (T4.get_of_set _ _ _ _ _ h' e)
      exact ⟨q, by simp [h1], h2⟩
def eqB : Blk → Blk → Bool
  | .row t g z o c, .row t' g' z' o' c' => Nat.beq t t' && (g == g' && (decide (z = z') && (o == o' && eqA c c')))
  | .tab l, .tab l' => eqA l l'
  | _, _ => false
theorem eqB_eq {a b : Blk} (h : eqB a b = true) : a = b := by
  cases a <;> cases b <;> simp only [eqB, Bool.false_eq_true] at h
  · simp only [Bool.and_eq_true, decide_eq_true_eq, beq_iff_eq] at h
    obtain ⟨h1, h2, h3, h4, h5⟩ := h
    rw [Nat.eq_of_beq_eq_true h1, h2, h3, h4, eqA_eq h5]
  · rw [eqA_eq h]
noncomputable def slotsOk (dt : Nat) (t : Tr) : List (Nat × AV) → Bool
  | [] => true
  | p :: l => eqA (getT (path dt p.1) t) p.2 && slotsOk dt t l
noncomputable def memOk (m : Mem) : List (Nat × Blk) → Bool
  | [] => true
  | p :: l => (match m.get (path DB p.1) with | some b => eqB b p.2 | none => false) && memOk m l
theorem slotsOk_all {dt : Nat} {t : Tr} : ∀ {l : List (Nat × AV)}, slotsOk dt t l = true → ∀ p ∈ l, getT (path dt p.1) t = p.2
  | [], _, p, hp => by cases hp
  | q :: l, h, p, hp => by
    simp only [slotsOk, Bool.and_eq_true] at h
    rcases List.mem_cons.1 hp with rfl | hp
    · exact eqA_eq h.1
    · exact slotsOk_all h.2 p hp
theorem memOk_all {m : Mem} : ∀ {l : List (Nat × Blk)}, memOk m l = true → ∀ p ∈ l, m.get (path DB p.1) = some p.2
  | [], _, p, hp => by cases hp
  | q :: l, h, p, hp => by
    simp only [memOk, Bool.and_eq_true] at h
    rcases List.mem_cons.1 hp with rfl | hp
    · have h1 := h.1
      split at h1
      · rename_i b hb
        rw [hb, eqB_eq h1]
      · cases h1
    · exact memOk_all h.2 p hp
section
variable {P : Program} {G dt n : Nat} {lo : Nat → Bool} {φ : Id → Option Plc} {sts : List Site} {B : Bse sts} {w : World} {a : Act}
theorem FR.cut {t : Tr} {l : List (Nat × AV)} (h : FR φ dt n lo t a) (hl : ∀ p ∈ l, getT (path dt p.1) t = p.2) (hn : getT (path dt n) t = .u) : FR φ dt n lo (mkTr dt l) a := by
  have key : ∀ k, getT (path dt k) (mkTr dt l) = .u ∨ getT (path dt k) (mkTr dt l) = getT (path dt k) t := fun k => by
    rw [getT_get]
    cases e : (mkTr dt l).get (path dt k) with
    | none => exact .inl rfl
    | some x =>
      obtain ⟨p, h1, h2, h3⟩ := tr_get e
      refine .inr ?_
      show x = _
      rw [h3, h2, hl p h1]
  refine ⟨h.sz, h.cap, fun d hd => ?_, fun d hd hlo => ?_, ?_⟩
  · rcases key d with e | e
    · rw [e]; exact trivial
    · rw [e]; exact h.at' d hd
  · rcases key d with e | e
    · exact e
    · rw [e]; exact h.lo d hd hlo
  · rcases key n with e | e
    · rw [e, ← hn]; exact h.df
    · rw [e]; exact h.df
theorem WR.cut {m : Mem} {nx : Id} {l : List (Nat × Blk)} (h : WR φ B m nx w) (hl : ∀ p ∈ l, m.get (path DB p.1) = some p.2) : WR φ B (mkMem l) nx w := by
  have key : ∀ r x, (mkMem l).get r = some x → m.get r = some x := fun r x e => by
    obtain ⟨p, h1, rfl, rfl⟩ := mem_get e
    exact hl p h1
  refine ⟨h.len, fun r hr => h.fresh r ?_, fun r x g h1 h2 => h.blk r x g (key r x h1) h2, fun r r' x x' g g' h1 h2 => h.inj r r' x x' g g' (key r x h1) (key r' x' h2), h.lt, fun r x g h1 => h.base r x g (key r x h1), h.bsz, h.loops⟩
  rcases hr with hr | hr
  · left
    cases e : (mkMem l).get r with
    | none => exact absurd e hr
    | some x => rw [key r x e]; simp
  · exact .inr hr
def Goal (P : Program) (G dt n : Nat) (lo : Nat → Bool) (R : Act → World → Prop) (l : List Code) (S : St) : Prop :=
  ∀ φ (B : Bse []) a w, Glo G φ → FR φ dt n lo (mkTr dt S.slots) a → WR φ B (mkMem S.mem) (path DB S.nx) w → ∀ Q : Exit → Act → World → Prop, (∀ e a' w', e = .normal ∨ e = .ret → a'.defers = [] → R a' w' → Below B.b w w' → Q e a' w') → wpL P l Q a w
noncomputable def cmL (mk : Code → CM) : List Code → CM
  | [] => .mk fun _ t hp k => k .normal t hp
  | c :: l => let m := mk c; let q := cmL mk l; .mk fun hd t hp k => m.run hd t hp fun x t hp => match x with
    | .normal => q.run hd t hp k
    | x => k x t hp
theorem cmL_ok {mk : Code → CM} (hm : ∀ c, CMOk P G dt n lo c (mk c)) : ∀ (l : List Code), ∀ hd, HdOk P G hd → ∀ t hp k r, (cmL mk l).run hd t hp k = some r → ∃ x t' hp', k x t' hp' = some r ∧
    ∀ φ (B : Bse hd.y.s) a w, Glo G φ → FR φ dt n lo t a → WH φ B hp w → ∀ Q, (∀ ψ a' w' x', ExR ψ x x' → FR ψ dt n lo t' a' → StH φ hp w ψ hp' w' → WH ψ B hp' w' → Q x' a' w') → wpL P l Q a w
  | [], hd, hok, t, hp, k, r, h => ⟨.normal, t, hp, h, fun φ B a w g1 g2 g3 Q hQ => hQ φ a w _ rfl g2 Step.refl g3⟩
  | c :: l, hd, hok, t, hp, k, r, h => by
    obtain ⟨x, t1, hp1, h1, h2⟩ := (hm c).wp hok h
    cases x with
    | normal =>
      obtain ⟨x2, t2, hp2, h3, h4⟩ := cmL_ok hm l hd hok t1 hp1 k r h1
      refine ⟨x2, t2, hp2, h3, fun φ B a w g1 g2 g3 Q hQ => h2 φ B a w g1 g2 g3 _ fun ψ a' w' x' f0 f1 f2 f3 => ?_⟩
      have : x' = .normal := f0
      subst this
      exact h4 ψ B a' w' (g1.more f2.more) f1 f3 Q fun χ a'' w'' x'' e0 e1 e2 e3 => hQ χ a'' w'' x'' e0 e1 (f2.trans e2) e3
    | exit i =>
      refine ⟨_, t1, hp1, h1, fun φ B a w g1 g2 g3 Q hQ => h2 φ B a w g1 g2 g3 _ fun ψ a' w' x' f0 f1 f2 f3 => ?_⟩
      have hq := hQ ψ a' w' x' f0 f1 f2 f3
      have : x' = .exit i := f0
      subst this
      exact hq
    | ret =>
      refine ⟨_, t1, hp1, h1, fun φ B a w g1 g2 g3 Q hQ => h2 φ B a w g1 g2 g3 _ fun ψ a' w' x' f0 f1 f2 f3 => ?_⟩
      have hq := hQ ψ a' w' x' f0 f1 f2 f3
      have : x' = .ret := f0
      subst this
      exact hq
    | pan v =>
      refine ⟨_, t1, hp1, h1, fun φ B a w g1 g2 g3 Q hQ => h2 φ B a w g1 g2 g3 _ fun ψ a' w' x' f0 f1 f2 f3 => ?_⟩
      have hq := hQ ψ a' w' x' f0 f1 f2 f3
      obtain ⟨v', e, _⟩ := f0
      subst e
      exact hq
noncomputable def stEnd (dt n : Nat) (S : St) (x : Ex) (t : Tr) (hp : HP) : R := match x with
  | .normal => match hp with
    | .mk m nx => match slotsOk dt t S.slots && (memOk m S.mem && (eqA.listEqId nx (path DB S.nx) && eqA (getT (path dt n) t) .u)) with
      | true => some (.u, hp)
      | false => none
  | _ => none
theorem Goal.part {R : Act → World → Prop} {l1 l2 : List Code} {S S' : St} {mk : Code → CM} (hm : ∀ c, CMOk P G dt n lo c (mk c)) {hd : HdB} (hokb : HdOkB P G hd) {r : AV × HP}
    (hrun : (cmL mk l1).run ⟨hd, y0⟩ (mkTr dt S.slots) (.mk (mkMem S.mem) (path DB S.nx)) (stEnd dt n S') = some r) (h2 : Goal P G dt n lo R l2 S') : Goal P G dt n lo R (l1 ++ l2) S := by
  obtain ⟨x, t', hp', h3, h4⟩ := cmL_ok hm l1 ⟨hd, y0⟩ ⟨y0_ok, hokb⟩ _ _ _ r hrun
  unfold stEnd at h3
  split at h3
  · split at h3
    rename_i m nx
    split at h3
    · rename_i hc
      simp only [Bool.and_eq_true] at hc
      obtain ⟨c1, c2, c3, c4⟩ := hc
      have c4' := eqA_eq c4
      have c3' := listEqId_eq c3
      subst c3'
      intro φ B a w g1 g2 g3 Q hQ
      refine wpL_app l1 l2 Q a w (h4 φ B a w g1 g2 g3 _ fun ψ a' w' x' f0 f1 f2 f3 => ?_)
      have : x' = .normal := f0
      subst this
      have hb := Step.below g3 f2
      exact h2 ψ B a' w' (g1.more f2.more) (f1.cut (slotsOk_all c1) c4') (WR.cut f3 (memOk_all c2)) Q fun e a'' w'' e0 e1 e2 e3 => hQ e a'' w'' e0 e1 e2 (hb.trans e3)
    · cases h3
  · cases h3
noncomputable def isTrueR (hp : HP) (v : AV) : R := match v with
  | .b true => some (.u, hp)
  | _ => none
noncomputable def stTrue (P : Program) (dt n : Nat) (rs : List ResultVar) (x : Ex) (t : Tr) (hp : HP) : R := match x, getT (path dt n) t with
  | .normal, .u => (resL P dt n rs).run t hp fun l => oneOf l (isTrueR hp)
  | .ret, .u => (resL P dt n rs).run t hp fun l => oneOf l (isTrueR hp)
  | _, _ => none
theorem Goal.last {fn : Func} {l : List Code} {S : St} {mk : Code → CM} (h4 : fn.results.toList.length ≤ 5) (hm : ∀ c, CMOk P G dt fn.ntmps lo c (mk c)) {hd : HdB} (hokb : HdOkB P G hd) {r : AV × HP}
    (hrun : (cmL mk l).run ⟨hd, y0⟩ (mkTr dt S.slots) (.mk (mkMem S.mem) (path DB S.nx)) (stTrue P dt fn.ntmps fn.results.toList) = some r) : Goal P G dt fn.ntmps lo (fun a w => (results fn a.tmps).run P w = .ok (.bool true) w) l S := by
  obtain ⟨x, t', hp', h3, h5⟩ := cmL_ok hm l ⟨hd, y0⟩ ⟨y0_ok, hokb⟩ _ _ _ r hrun
  have fin : getT (path dt fn.ntmps) t' = .u → (resL P dt fn.ntmps fn.results.toList).run t' hp' (fun l => oneOf l (isTrueR hp')) = some r → ∀ φ (B : Bse []) a w, FR φ dt fn.ntmps lo t' a → WH φ B hp' w → a.defers = [] ∧ (results fn a.tmps).run P w = .ok (.bool true) w := by
    intro hu h6 φ B a w f1 f3
    obtain ⟨l, h7, h8⟩ := resL_some (lo := lo) h6
    obtain ⟨v, h9, h10⟩ := results_ok (P := P) (fn := fn) h4 h7
    obtain ⟨vs, v1, v2, v3⟩ := h8 φ B a w f1 f3
    obtain ⟨v', e, q⟩ := h10 φ a.tmps w vs v1 v2 v3
    refine ⟨by have := f1.df; rw [hu] at this; exact this, ?_⟩
    unfold isTrueR at h9
    split at h9
    · have : v' = .bool true := q
      rw [e, this]
    · cases h9
  have key : (x = .normal ∨ x = .ret) ∧ getT (path dt fn.ntmps) t' = .u ∧ (resL P dt fn.ntmps fn.results.toList).run t' hp' (fun l => oneOf l (isTrueR hp')) = some r := by
    unfold stTrue at h3
    split at h3
    · rename_i hu; exact ⟨.inl rfl, hu, h3⟩
    · rename_i hu; exact ⟨.inr rfl, hu, h3⟩
    · cases h3
  obtain ⟨hx, hu, hres⟩ := key
  intro φ B a w g1 g2 g3 Q hQ
  refine h5 φ B a w g1 g2 g3 Q fun ψ a' w' x' f0 f1 f2 f3 => ?_
  obtain ⟨q1, q2⟩ := fin hu hres ψ B a' w' f1 f3
  refine hQ x' a' w' ?_ q1 q2 (Step.below g3 f2)
  rcases hx with e | e
  · subst e; exact .inl f0
  · subst e; exact .inr f0
theorem Goal.calls {f : FuncId} {fn : Func} {c : Code} (hf : P.funcs[f]? = some fn) (hb : fn.body = some c) (hG : Nat.blt G (4 ^ DB) = true) (hcap : Nat.blt fn.ntmps (4 ^ dt) = true)
    (h : Goal P G dt fn.ntmps lo (fun a w => (results fn a.tmps).run P w = .ok (.bool true) w) (flatC c) ⟨[], [], G⟩) (w : World) (hw : G ≤ w.heap.size) : Calls P f #[] w fun e w' => e = .returned (.bool true) ∧ Below w.heap.size w w' := by
  have hG' : G < 4 ^ DB := by simpa [Nat.blt_eq] using hG
  have hcap' : fn.ntmps < 4 ^ dt := by simpa [Nat.blt_eq] using hcap
  refine calls_of_wp_defers hf hb (wp_flat_all ?_)
  refine h (glob G) ⟨w.heap.size, []⟩ _ w (fun g hg => ⟨0, glob_at hG' hg⟩) (enter_ok (l := .nil) hcap' rfl (Nat.zero_le _)) (glob_start hG' hw) _ fun e a' w' e0 e1 e2 e3 => ?_
  rcases e0 with e | e <;> subst e
  · show Leaves P fn a'.tmps _ a'.defers .returning w'
    rw [e1]
    exact ⟨_, e2, rfl, e3⟩
  · show Leaves P fn a'.tmps _ a'.defers .returning w'
    rw [e1]
    exact ⟨_, e2, rfl, e3⟩
theorem Goal.part_is {R : Act → World → Prop} {l : List Code} {j m : Nat} {S S' : St} {mk : Code → CM} (hm : ∀ c, CMOk P G dt n lo c (mk c)) {hd : HdB} (hokb : HdOkB P G hd)
    (hrun : ((cmL mk ((l.drop j).take m)).run ⟨hd, y0⟩ (mkTr dt S.slots) (.mk (mkMem S.mem) (path DB S.nx)) (stEnd dt n S')).isSome = true) (h2 : Goal P G dt n lo R (l.drop (j + m)) S') : Goal P G dt n lo R (l.drop j) S := by
  obtain ⟨r, hr⟩ := Option.isSome_iff_exists.1 hrun
  have := Goal.part hm hokb hr h2
  rw [← List.drop_drop, List.take_append_drop] at this
  exact this
theorem Goal.last_is {fn : Func} {l : List Code} {S : St} {mk : Code → CM} (h4 : fn.results.toList.length ≤ 5) (hm : ∀ c, CMOk P G dt fn.ntmps lo c (mk c)) {hd : HdB} (hokb : HdOkB P G hd)
    (hrun : ((cmL mk l).run ⟨hd, y0⟩ (mkTr dt S.slots) (.mk (mkMem S.mem) (path DB S.nx)) (stTrue P dt fn.ntmps fn.results.toList)).isSome = true) : Goal P G dt fn.ntmps lo (fun a w => (results fn a.tmps).run P w = .ok (.bool true) w) l S := by
  obtain ⟨r, hr⟩ := Option.isSome_iff_exists.1 hrun
  exact Goal.last h4 hm hokb hr
end
end Go.Proofs.YtobaebpmdimljaaGreatDoor.Clo
end
section
namespace Go.Proofs.YtobaebpmdimljaaGreatDoor.Clo
open Go.RowKit
set_option linter.unusedVariables false
set_option linter.unusedSimpArgs false
set_option linter.constructorNameAsVariable false
def sh (G b : Nat) (r : Id) : Id := path DB (Nat.add (Nat.sub (num r) G) b)
noncomputable def AV.ren (f : Id → Id) (x : AV) : AV :=
  AV.rec (motive := fun _ => AV) .u .nil (fun _ _ a b => .cons a b) .inil (fun t _ a => .ifc t a) .fnil (fun g _ _ a c => .fn g a c) .mn (fun r => .mp (f r)) (fun _ a => .tu a) (fun _ a => .ag a) .sn (fun r o n c => .sl (f r) o n c) (fun r o n z => .sg (f r) o n z) (fun r => .se (f r)) (fun r => .yd (f r)) .pn (fun r o => .p (f r) o) (fun l => .s l) (fun x => .b x) (fun k n => .i k n) x
def AV.ids (q : Id → Bool) : AV → Bool
  | .cons x r => x.ids q && r.ids q
  | .ifc _ x => x.ids q
  | .fn _ a c => a.ids q && c.ids q
  | .mp r => q r
  | .tu l => l.ids q
  | .ag l => l.ids q
  | .sl r _ _ _ => q r
  | .sg r _ _ _ => q r
  | .se r => q r
  | .yd r => q r
  | .p r _ => q r
  | _ => true
theorem says_ren {φ' ψ : Id → Option Plc} {f : Id → Id} {q : Id → Bool} (h : ∀ r, q r = true → φ' (f r) = ψ r) : ∀ x : AV, x.ids q = true → (x.ren f).says φ' = x.says ψ := by
  intro x
  induction x with
  | cons x r hx hr =>
    intro hi
    simp only [AV.ids, Bool.and_eq_true] at hi
    show AV.says φ' (.cons (x.ren f) (r.ren f)) = _
    simp only [AV.says, hx hi.1, hr hi.2]
  | ifc t x hx => intro hi; show AV.says φ' (.ifc t (x.ren f)) = _; simp only [AV.says, hx hi]
  | fn g a c ha hc =>
    intro hi
    simp only [AV.ids, Bool.and_eq_true] at hi
    show AV.says φ' (.fn g (a.ren f) (c.ren f)) = _
    simp only [AV.says, ha hi.1, hc hi.2]
  | mp r => intro hi; show AV.says φ' (.mp (f r)) = _; simp only [AV.says, h r hi]
  | tu l hl => intro hi; show AV.says φ' (.tu (l.ren f)) = _; simp only [AV.says, hl hi]
  | ag l hl => intro hi; show AV.says φ' (.ag (l.ren f)) = _; simp only [AV.says, hl hi]
  | sl r o n c => intro hi; show AV.says φ' (.sl (f r) o n c) = _; simp only [AV.says, h r hi]
  | sg r o n z => intro hi; show AV.says φ' (.sg (f r) o n z) = _; simp only [AV.says, h r hi]
  | se r => intro hi; show AV.says φ' (.se (f r)) = _; simp only [AV.says, h r hi]
  | yd r => intro hi; show AV.says φ' (.yd (f r)) = _; simp only [AV.says, h r hi]
  | p r o => intro hi; show AV.says φ' (.p (f r) o) = _; simp only [AV.says, h r hi]
  | _ => intro hi; rfl
def okRow (q : Id → Bool) : Blk → Bool
  | .row _ _ _ ro cells => !ro && cells.ids q
  | _ => false
noncomputable def Blk.ren (f : Id → Id) : Blk → Blk
  | .row t g z ro c => .row t g z ro (c.ren f)
  | b => b
theorem Blk.ren_says {φ' ψ : Id → Option Plc} {f : Id → Id} {q : Id → Bool} (h : ∀ r, q r = true → φ' (f r) = ψ r) {b : Blk} {K : Nat} {o : Obj} (hb : okRow q b = true) (k : b.says ψ K o) : (b.ren f).says φ' K o := by
  cases b with
  | row t g z ro c =>
    simp only [okRow, Bool.and_eq_true] at hb
    obtain ⟨cs, l, rest, m, h1, h2, h3, h4⟩ := k
    refine ⟨cs, l, rest, m, h1, h2, ?_, h4⟩
    show ((c.ren f).says φ').2 l
    rw [says_ren h c hb.2]
    exact h3
  | _ => cases hb
theorem Blk.ren_ro {f : Id → Id} {q : Id → Bool} {b : Blk} (hb : okRow q b = true) : b.ro = false ∧ (b.ren f).ro = false := by
  cases b with
  | row t g z ro c =>
    simp only [okRow, Bool.and_eq_true, Bool.not_eq_true'] at hb
    exact ⟨hb.1, hb.1⟩
  | _ => cases hb
noncomputable def addB (f : Id → Id) (l : List (Nat × Blk)) : Mem → Mem :=
  List.rec (motive := fun _ => Mem → Mem) (fun m => m) (fun p _ ih m => ih (m.set (f (path DB p.1)) (p.2.ren f))) l
theorem addB_get {f : Id → Id} : ∀ {l : List (Nat × Blk)} {m : Mem} {q : Id} {x : Blk}, (addB f l m).get q = some x → (∃ p ∈ l, q = f (path DB p.1) ∧ x = p.2.ren f) ∨ m.get q = some x
  | [], m, q, x, h => .inr h
  | p :: l, m, q, x, h => by
    have h' : (addB f l (m.set (f (path DB p.1)) (p.2.ren f))).get q = some x := h
    rcases addB_get h' with ⟨p', h1, h2⟩ | h1
    · exact .inl ⟨p', by simp [h1], h2⟩
    · by_cases e : q = f (path DB p.1)
      · subst e
        rw [T4.get_set_same] at h1
        cases h1
        exact .inl ⟨p, by simp, rfl, rfl⟩
      · exact .inr (T4.get_of_set _ _ _ _ _ h1 e)
theorem addB_old {f : Id → Id} : ∀ {l : List (Nat × Blk)} {m : Mem} {q : Id}, (∀ p ∈ l, q ≠ f (path DB p.1) ∧ (f (path DB p.1)).length = q.length) → (addB f l m).get q = m.get q
  | [], m, q, h => rfl
  | p :: l, m, q, h => by
    have h1 := h p (by simp)
    have h2 : (addB f l (m.set (f (path DB p.1)) (p.2.ren f))).get q = (m.set (f (path DB p.1)) (p.2.ren f)).get q := addB_old fun p' hp' => h p' (by simp [hp'])
    show (addB f l (m.set (f (path DB p.1)) (p.2.ren f))).get q = _
    rw [h2]
    exact T4.get_set_other _ _ _ _ h1.2 h1.1
def inR (G n : Nat) (r : Id) : Bool := sameId r (path DB (num r)) && (Nat.ble G (num r) && Nat.blt (num r) (Nat.add G n))
theorem inR_ok {G n : Nat} {r : Id} (h : inR G n r = true) : r = path DB (num r) ∧ G ≤ num r ∧ num r < G + n := by
  simp only [inR, Bool.and_eq_true] at h
  exact ⟨sameId_eq h.1, Nat.le_of_ble_eq_true h.2.1, by simpa [Nat.blt_eq] using h.2.2⟩
section
variable {φ ψ : Id → Option Plc} {sts : List Site} {B : Bse sts} {m m1 : Mem} {nx nx1 : Id} {w w' : World} {G n : Nat}
theorem WR.join (hw : WR φ B m nx w) (hb : Below w.heap.size w w') (h1 : WR ψ (⟨w.heap.size, []⟩ : Bse []) m1 nx1 w') {L : List (Nat × Blk)} (hL : ∀ p ∈ L, m1.get (path DB p.1) = some p.2)
    (hok : ∀ p ∈ L, okRow (inR G n) p.2 = true ∧ inR G n (path DB p.1) = true) (hcap : num nx + n < 4 ^ DB) :
    ∃ φ', (∀ r, inR G n r = true → φ' (sh G (num nx) r) = ψ r) ∧ WR φ' B (addB (sh G (num nx)) L m) (path DB (num nx + n)) w' ∧ Step φ m nx w φ' (addB (sh G (num nx)) L m) (path DB (num nx + n)) w' := by
  have hnum : num (path DB (num nx + n)) = num nx + n := num_path DB _ hcap
  have shn : ∀ r, inR G n r = true → num (sh G (num nx) r) = num r - G + num nx := fun r hr => by
    obtain ⟨_, h2, h3⟩ := inR_ok hr
    exact num_path DB _ (by show num r - G + num nx < _; omega)
  have shl : ∀ r, (sh G (num nx) r).length = DB := fun r => path_len _ _
  let φ' : Id → Option Plc := fun q => if num nx ≤ num q ∧ q.length = DB ∧ num q < num nx + n then ψ (path DB (num q - num nx + G)) else φ q
  have hA : ∀ r, inR G n r = true → φ' (sh G (num nx) r) = ψ r := fun r hr => by
    obtain ⟨e, h2, h3⟩ := inR_ok hr
    have h4 := shn r hr
    show (if _ then _ else _) = _
    rw [if_pos ⟨by omega, shl r, by omega⟩, h4, show num r - G + num nx - num nx + G = num r from by omega, ← e]
  have hO : ∀ q, num q < num nx → φ' q = φ q := fun q hq => by
    show (if _ then _ else _) = _
    rw [if_neg (by omega)]
  have hm : More φ φ' := fun q g e => by
    have := (hw.fresh q (.inr (by rw [e]; simp))).2
    rw [hO q this]
    exact e
  have hN : ∀ q g, φ' q = some g → num nx ≤ num q → q.length = DB ∧ num q < num nx + n ∧ ψ (path DB (num q - num nx + G)) = some g := fun q g e hq => by
    have e' : (if num nx ≤ num q ∧ q.length = DB ∧ num q < num nx + n then ψ (path DB (num q - num nx + G)) else φ q) = some g := e
    split at e'
    · rename_i hc; exact ⟨hc.2.1, hc.2.2, e'⟩
    · have := (hw.fresh q (.inr (by rw [e']; simp))).2; omega
  have hB : ∀ q x, (addB (sh G (num nx)) L m).get q = some x → (num q < num nx ∧ m.get q = some x) ∨ ∃ p ∈ L, q = sh G (num nx) (path DB p.1) ∧ x = p.2.ren (sh G (num nx)) := fun q x e => by
    rcases addB_get e with h2 | h2
    · exact .inr h2
    · exact .inl ⟨(hw.fresh q (.inl (by rw [h2]; simp))).2, h2⟩
  have new_at : ∀ p ∈ L, ∀ g, φ' (sh G (num nx) (path DB p.1)) = some g → ψ (path DB p.1) = some g := fun p hp g e => by rw [hA _ (hok p hp).2] at e; exact e
  have new_num : ∀ p ∈ L, num nx ≤ num (sh G (num nx) (path DB p.1)) := fun p hp => by rw [shn _ (hok p hp).2]; omega
  have new_ge : ∀ p ∈ L, ∀ g, ψ (path DB p.1) = some g → w.heap.size ≤ g.1 := fun p hp g e => h1.base _ _ _ (hL p hp) (Blk.ren_ro (f := id) (hok p hp).1).1 e
  have hblk : ∀ j, j < w.heap.size → w'.heap[j]? = w.heap[j]? := fun j hj => hb.block j hj
  have hlk : LK w w' := LK.same hblk
  refine ⟨φ', hA, ⟨path_len _ _, fun q hq => ?_, fun q x g hq hg => ?_, fun q q' x x' g g' hq hq' hg hg' hgg => ?_, fun q g hg => ?_, fun q x g hq hx hg => ?_, Nat.le_trans hw.bsz hb.size, hw.loops.mono hm hlk⟩,
    ⟨hm, hb.os, hb.tape, hb.output, hb.size, fun g hg _ => hblk g hg, fun g hg ⟨q, x, g', e1, e2, e3, e4⟩ => ?_, fun r x hr hn => ?_, by rw [hnum]; omega, fun r hl hr => hO r hr, hlk⟩⟩
  · rw [hnum]
    by_cases hlt : num q < num nx
    · have : m.get q ≠ none ∨ φ q ≠ none := by
        rcases hq with hq | hq
        · cases e : (addB (sh G (num nx)) L m).get q with
          | none => exact absurd e hq
          | some x =>
            rcases hB q x e with ⟨_, h2⟩ | ⟨p, hp, rfl, _⟩
            · left; rw [h2]; simp
            · have := new_num p hp; omega
        · right; rw [hO q hlt] at hq; exact hq
      exact ⟨(hw.fresh q this).1, by omega⟩
    · rcases hq with hq | hq
      · cases e : (addB (sh G (num nx)) L m).get q with
        | none => exact absurd e hq
        | some x =>
          rcases hB q x e with ⟨h2, _⟩ | ⟨p, hp, rfl, _⟩
          · omega
          · obtain ⟨_, h3, h4⟩ := inR_ok (hok p hp).2
            exact ⟨shl _, by rw [shn _ (hok p hp).2]; omega⟩
      · cases e : φ' q with
        | none => exact absurd e hq
        | some g =>
          obtain ⟨h2, h3, _⟩ := hN q g e (by omega)
          exact ⟨h2, h3⟩
  · rcases hB q x hq with ⟨hlt, h2⟩ | ⟨p, hp, rfl, rfl⟩
    · rw [hO q hlt] at hg
      obtain ⟨o, h3, h4⟩ := hw.blk q x g h2 hg
      exact ⟨o, (hblk _ (hw.lt q g hg)).trans h3, Blk.says_more hm h4⟩
    · obtain ⟨o, h3, h4⟩ := h1.blk _ _ g (hL p hp) (new_at p hp g hg)
      exact ⟨o, h3, Blk.ren_says hA (hok p hp).1 h4⟩
  · rcases hB q x hq with ⟨hlt, h2⟩ | ⟨p, hp, rfl, rfl⟩
    · rw [hO q hlt] at hg
      rcases hB q' x' hq' with ⟨hlt', h2'⟩ | ⟨p', hp', rfl, rfl⟩
      · rw [hO q' hlt'] at hg'
        exact hw.inj q q' x x' g g' h2 h2' hg hg' hgg
      · have h3 := new_ge p' hp' g' (new_at p' hp' g' hg')
        have h4 := hw.lt q g hg
        omega
    · have h3 := new_ge p hp g (new_at p hp g hg)
      rcases hB q' x' hq' with ⟨hlt', h2'⟩ | ⟨p', hp', rfl, rfl⟩
      · rw [hO q' hlt'] at hg'
        have h4 := hw.lt q' g' hg'
        omega
      · have := h1.inj _ _ _ _ g g' (hL p hp) (hL p' hp') (new_at p hp g hg) (new_at p' hp' g' hg') hgg
        rw [this]
  · by_cases hlt : num q < num nx
    · rw [hO q hlt] at hg
      exact Nat.lt_of_lt_of_le (hw.lt q g hg) hb.size
    · obtain ⟨_, _, h3⟩ := hN q g hg (by omega)
      exact h1.lt _ g h3
  · rcases hB q x hq with ⟨hlt, h2⟩ | ⟨p, hp, rfl, rfl⟩
    · rw [hO q hlt] at hg
      exact hw.base q x g h2 hx hg
    · exact Nat.le_trans hw.bsz (new_ge p hp g (new_at p hp g hg))
  · rcases hB q x e1 with ⟨hlt, h2⟩ | ⟨p, hp, rfl, rfl⟩
    · rw [hO q hlt] at e3
      exact ⟨q, x, g', h2, e2, e3, e4⟩
    · have := new_ge p hp g' (new_at p hp g' e3)
      omega
  · have hf := hw.fresh r (.inl (by rw [hr]; simp))
    refine ⟨?_, by rw [hO r hf.2]; exact hn⟩
    rw [addB_old fun p hp => ⟨fun e => ?_, by rw [shl]; exact hf.1.symm⟩]
    · exact hr
    · have := new_num p hp
      rw [← e] at this
      omega
end
structure MB where
  v : AV
  mem : List (Nat × Blk)
  n : Nat
inductive BTree where
  | leaf
  | node (l : BTree) (k : Nat) (args : AV) (e : MB) (r : BTree)
noncomputable def BTree.find (n : Nat) (args : AV) (T : BTree) : Option MB :=
  BTree.rec (motive := fun _ => Option MB) none (fun _ j a v _ ihl ihr => Bool.rec (motive := fun _ => Option MB) (Bool.rec (motive := fun _ => Option MB) (Bool.rec (motive := fun _ => Option MB) none (some v) (a.same args)) ihr (Nat.blt j n)) ihl (Nat.blt n j)) T
noncomputable def BTree.all (Q : AV → MB → Bool) : BTree → Bool
  | .leaf => true
  | .node l _ a v r => l.all Q && (Q a v && r.all Q)
theorem BTree.all_node {Q : AV → MB → Bool} {l r : BTree} {k : Nat} {a : AV} {v : MB} (h1 : l.all Q = true) (h2 : Q a v = true) (h3 : r.all Q = true) : (BTree.node l k a v r).all Q = true := by
  simp only [BTree.all, h1, h2, h3, Bool.and_self]
theorem MTree.all_node {Q : AV → AV → Bool} {l r : MTree} {k : Nat} {a v : AV} (h1 : l.all Q = true) (h2 : Q a v = true) (h3 : r.all Q = true) : (MTree.node l k a v r).all Q = true := by
  simp only [MTree.all, h1, h2, h3, Bool.and_self]
theorem BTree.find_some {Q : AV → MB → Bool} {n : Nat} {args : AV} {v : MB} : ∀ {T : BTree}, T.all Q = true → T.find n args = some v → Q args v = true
  | .leaf, _, h => by cases h
  | .node l j a u r, h, k => by
    simp only [BTree.all, Bool.and_eq_true] at h
    have k' : (Bool.rec (motive := fun _ => Option MB) (Bool.rec (motive := fun _ => Option MB) (Bool.rec (motive := fun _ => Option MB) none (some u) (a.same args)) (r.find n args) (Nat.blt j n)) (l.find n args) (Nat.blt n j) : Option MB) = some v := k
    cases h1 : Nat.blt n j with
    | true => rw [h1] at k'; exact BTree.find_some h.1 k'
    | false =>
      rw [h1] at k'
      cases h2 : Nat.blt j n with
      | true => rw [h2] at k'; exact BTree.find_some h.2.2 k'
      | false =>
        rw [h2] at k'
        cases h3 : a.same args with
        | false => rw [h3] at k'; cases k'
        | true =>
          rw [h3] at k'
          have := AV.same_eq h3
          cases k'
          subst this
          exact h.2.1
section
variable {P : Program} {G : Nat}
noncomputable def runB (T : FTree P G) (fuel : Nat) (f : FuncId) (args : AV) (e : MB) : Bool := match runC T fuel f args with
  | some (v, .mk m1 _) => eqA v e.v && memOk m1 e.mem
  | none => false
noncomputable def knownB (T : FTree P G) (fuel : Nat) (f : FuncId) (args : AV) (e : MB) : Bool :=
  args.plain && (e.v.ids (inR G e.n) && ((e.mem.all fun p => okRow (inR G e.n) p.2 && inR G e.n (path DB p.1)) && runB T fuel f args e))
theorem calls_of_runB {T : FTree P G} {fuel : Nat} {f : FuncId} {args v : AV} {hp : HP} (hG : Nat.blt G (4 ^ DB) = true) (hc : ∀ (ars : Array Value) w, (callFunc f ars).run P w = .ok (.enter f ars) w) (h : runC T fuel f args = some (v, hp))
    (w : World) (hw : G ≤ w.heap.size) (ars : Array Value) (ha : ∀ φ, VL φ args ars.toList) : Calls P f ars w fun e w' => ∃ v', e = .returned v' ∧ ∃ ψ, VR ψ v v' ∧ WR ψ (⟨w.heap.size, []⟩ : Bse []) hp.m hp.nx w' ∧ Below w.heap.size w w' := by
  have hG' : G < 4 ^ DB := by simpa [Nat.blt_eq] using hG
  rcases (hd0_ok T fuel).c f args _ _ _ _ h with ⟨v1, hp1, h1, h2⟩ | ⟨v1, hp1, h1, h2⟩
  · cases h1
    have h0 : WH (glob G) (⟨w.heap.size, []⟩ : Bse []) (.mk .e (path DB G)) w := glob_start hG' hw
    rcases h2 (glob G) ⟨w.heap.size, []⟩ w ars (fun g hg => ⟨0, glob_at hG' hg⟩) h0 (ha _) with ⟨_, h3⟩ | ⟨v2, w2, h3, _⟩
    · refine h3.mono fun e w' ⟨v', e1, ψ, h4, h5, h6⟩ => ⟨v', e1, ψ, h4, h6, ?_⟩
      exact Step.below h0 h5
    · rw [hc ars w] at h3
      cases h3
  · cases h1
noncomputable def Ent.blocks {T : FTree P G} {fuel : Nat} (e : Ent P G) (M : BTree) (hG : Nat.blt G (4 ^ DB) = true) (hc : ∀ (ars : Array Value) w, (callFunc e.f ars).run P w = .ok (.enter e.f ars) w) (h : M.all (knownB T fuel e.f) = true) : Ent P G :=
  ⟨e.f, .mk fun hd args hp k kp => Option.rec (motive := fun _ => R) (e.m.run hd args hp k kp) (fun b => HP.rec (motive := fun _ => R) (fun m nx => Bool.rec (motive := fun _ => R) none (k (b.v.ren (sh G (num nx))) (.mk (addB (sh G (num nx)) b.mem m) (path DB (Nat.add (num nx) b.n)))) (Nat.blt (Nat.add (num nx) b.n) 65536)) hp) (M.find (args.key 1) args), e.d, (fun hd hok args hp k kp r hr => by
    cases hp with
    | mk m nx =>
    have hr' : (Option.rec (motive := fun _ => R) (e.m.run hd args (.mk m nx) k kp) (fun b => Bool.rec (motive := fun _ => R) none (k (b.v.ren (sh G (num nx))) (.mk (addB (sh G (num nx)) b.mem m) (path DB (Nat.add (num nx) b.n)))) (Nat.blt (Nat.add (num nx) b.n) 65536)) (M.find (args.key 1) args) : R) = some r := hr
    cases hf : M.find (args.key 1) args with
    | none => rw [hf] at hr'; exact e.ok hd hok args _ k kp r hr'
    | some b =>
      rw [hf] at hr'
      have hr2 : (Bool.rec (motive := fun _ => R) none (k (b.v.ren (sh G (num nx))) (.mk (addB (sh G (num nx)) b.mem m) (path DB (Nat.add (num nx) b.n)))) (Nat.blt (Nat.add (num nx) b.n) 65536) : R) = some r := hr'
      cases hcap : Nat.blt (Nat.add (num nx) b.n) 65536 with
      | false => rw [hcap] at hr2; cases hr2
      | true =>
      rw [hcap] at hr2
      have hcap' : num nx + b.n < 4 ^ DB := by
        rw [show 4 ^ DB = 65536 from by decide]
        simpa [Nat.blt_eq] using hcap
      have hk := BTree.find_some h hf
      simp only [knownB, Bool.and_eq_true] at hk
      obtain ⟨p1, p2, p3, p4⟩ := hk
      unfold runB at p4
      split at p4
      · rename_i v' m1 nx1 hrun
        simp only [Bool.and_eq_true] at p4
        have hv := eqA_eq p4.1
        subst hv
        have hL := memOk_all p4.2
        have hok2 : ∀ p ∈ b.mem, okRow (inR G b.n) p.2 = true ∧ inR G b.n (path DB p.1) = true := fun p hp => by
          have := List.all_eq_true.1 p3 p hp
          simpa only [Bool.and_eq_true] using this
        refine .inl ⟨_, _, hr2, fun φ B w ars g1 hw hargs => .inl ⟨hc ars w, ?_⟩⟩
        have hw' : WR φ B m nx w := hw
        refine (calls_of_runB hG hc hrun w (g1.size hw') ars fun ψ => ?_).mono fun e' w' ⟨u, e1, ψ, h1, h2, h3⟩ => ?_
        · show (args.says ψ).2 _
          rw [AV.plain_says (ψ := φ) p1]
          exact hargs
        · obtain ⟨φ', s1, s2, s3⟩ := WR.join (G := G) (n := b.n) hw' h3 h2 hL hok2 hcap'
          refine ⟨u, e1, φ', ?_, s3, s2⟩
          show ((b.v.ren (sh G (num nx))).says φ').1 u
          rw [says_ren s1 b.v p2]
          exact h1
      · cases p4), e.okD, true, fun _ => hc⟩
end
end Go.Proofs.YtobaebpmdimljaaGreatDoor.Clo
end
