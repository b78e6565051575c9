/- Part 4 of a proof laid in parts, one behind the other; no condition of its own. -/
import Derived.Test.YtknjkljigmepjaaGreatDoorZ03
import Derived.Laws.Cells
import Derived.Recover
import Derived.Laws.IdiomCopy
import Derived.Deep.AppendSrc
import Derived.RangeFuncRecord
import Derived.Scope
set_option linter.all false
section
namespace Go.Proofs.YtknjkljigmepjaaGreatDoor.Clo
open Go.RowKit
set_option linter.unusedVariables false
set_option linter.unusedSimpArgs false
def DB : Nat := 8
def FzR (fz : Option Nat) (m : Nat × Nat) (K b : Nat) : Prop := match fz with
  | some z => ∀ i, i < K → m.1 ≤ i → i < m.2 → i < b + z
  | none => True
inductive Blk where
  | row (t : TypeId) (grow : Bool) (fz : Option Nat) (ro : Bool) (cells : AV)
  | tab (l : AV)
  | iter (s : List Nat) (pos : Nat)
  | dfd (op : Bool)
  | loop (st : LoopState) (pend : Option Code)
  | chn (cap : Nat) (buf : AV) (cl : Bool)
  | num (k : IntKind)
  | fix (v : Value)
def Blk.lp : Blk → Bool
  | .loop _ _ => true
  | _ => false
def Blk.ro : Blk → Bool
  | .row _ _ _ ro _ => ro
  | .num _ => true
  | .fix _ => true
  | _ => false
def ents (φ : Id → Option Plc) : AV → List MapEntry → Prop
  | .nil, l => l = []
  | .cons (.cons k v) r, l => ∃ e es, l = e :: es ∧ VR φ k e.key ∧ VR φ v e.val ∧ ents φ r es
  | _, _ => False
def Blk.says (φ : Id → Option Plc) (K : Nat × Nat) : Blk → Obj → Prop
  | .row t grow fz _ cells, o => ∃ (c : Array Value) (pre l rest : List Value) (m : Nat × Nat), o = .cells c t m ∧ c.toList = pre ++ (l ++ rest) ∧ VL φ cells l ∧ (grow = false → rest = [] ∧ pre = []) ∧ c.size = K.1 ∧ pre.length = K.2 ∧ FzR fz m K.1 K.2
  | .tab l, o => ∃ es k, o = .map es k ∧ ents φ l es.toList
  | .iter s p, o => o = .stringIter (bytesOf s) p ∧ K.2 = 0
  | .dfd b, o => o = .deferred (match b with | true => some [] | false => none)
  | .loop st pend, o => ∃ rec : Loop, o = .loop rec ∧ rec.state = st ∧ rec.pending = pend
  | .fix v, o => ∃ (t : TypeId) (m : Nat × Nat), o = .cells #[v] t m
  | .num k, o => ∃ (n : Int) (t : TypeId) (m : Nat × Nat), o = .cells #[.int k n] t m
  | .chn cap buf cl, o => ∃ (c : Array Value) (s r : Nat) (tm : Bool), o = .chan cap c cl s r tm ∧ VL φ buf c.toList
theorem ents_more {φ ψ : Id → Option Plc} (h : More φ ψ) : ∀ (x : AV) (l : List MapEntry), ents φ x l → ents ψ x l
  | .nil, _, k => k
  | .cons (.cons k v) r, l, ⟨e, es, h1, h2, h3, h4⟩ => ⟨e, es, h1, h2.more h, h3.more h, ents_more h r es h4⟩
theorem Blk.says_more {φ ψ : Id → Option Plc} (h : More φ ψ) {K : Nat × Nat} {x : Blk} {o : Obj} (k : x.says φ K o) : x.says ψ K o := by
  cases x with
  | row t grow fz ro cells => obtain ⟨c, pre, l, rest, m, h1, h2, h3, h4⟩ := k; exact ⟨c, pre, l, rest, m, h1, h2, h3.more h, h4⟩
  | tab l => obtain ⟨es, c, h1, h2⟩ := k; exact ⟨es, c, h1, ents_more h l _ h2⟩
  | iter s p => exact k
  | dfd b => exact k
  | loop st pend => exact k
  | chn cap buf cl => obtain ⟨c, s, r, tm, h1, h2⟩ := k; exact ⟨c, s, r, tm, h1, h2.more h⟩
  | num kd => exact k
  | fix v => exact k
theorem Blk.says_not_loop {φ : Id → Option Plc} {K : Nat × Nat} {x : Blk} {rec : Loop} (hx : x.lp = false) (k : x.says φ K (.loop rec)) : False := by
  cases x with
  | row t grow fz ro cells => obtain ⟨c, pre, l, rest, m, h1, _⟩ := k; cases h1
  | tab l => obtain ⟨es, c, h1, _⟩ := k; cases h1
  | iter s p => cases k.1
  | dfd b => cases k
  | loop st pend => cases hx
  | chn cap buf cl => obtain ⟨c, s, r, tm, h1, _⟩ := k; cases h1
  | num kd => obtain ⟨n, t, m, h1⟩ := k; cases h1
  | fix v => obtain ⟨t, m, h1⟩ := k; cases h1
abbrev Mem := T4 Blk
structure Site where
  r : Id
  dt : Nat
  n : Nat
  lo : Nat → Bool
  t : T4 AV
  ps : Array Tmp
  as' : Code
  bd : Code
structure Conc where
  l : Nat
  tmps : Array Value
structure SiteR (φ : Id → Option Plc) (w : World) (s : Site) (c : Conc) : Prop where
  pl : ∃ K, φ s.r = some (c.l, K)
  rc : ∃ rec : Loop, w.heap[c.l]? = some (.loop rec) ∧ rec.tmps = c.tmps ∧ rec.params = s.ps ∧ rec.assign = s.as' ∧ rec.body = s.bd
  sz : c.tmps.size = s.n
  cap : s.n < 4 ^ s.dt
  at' : ∀ d, d < s.n → VR φ ((s.t.get (path s.dt d)).getD .u) (c.tmps.getD d undef)
  lo : ∀ d, d < s.n → s.lo d = true → (s.t.get (path s.dt d)).getD .u = .u
  df : (s.t.get (path s.dt s.n)).getD .u = .u
def LoopsR (φ : Id → Option Plc) (w : World) : List Site → List Conc → Prop
  | [], _ => True
  | s :: ss, c :: cs => SiteR φ w s c ∧ LoopsR φ w ss cs
  | _ :: _, [] => False
def LK (w w' : World) : Prop := ∀ (l : Nat) (rec : Loop), w.heap[l]? = some (.loop rec) → ∃ rec' : Loop, w'.heap[l]? = some (.loop rec') ∧ rec'.tmps = rec.tmps ∧ rec'.params = rec.params ∧ rec'.assign = rec.assign ∧ rec'.body = rec.body
theorem LK.same {w w' : World} (h : ∀ j, j < w.heap.size → w'.heap[j]? = w.heap[j]?) : LK w w' := fun l rec e => ⟨rec, by rw [h l (Array.getElem?_eq_some_iff.1 e).1]; exact e, rfl, rfl, rfl, rfl⟩
theorem LK.refl (w : World) : LK w w := fun l rec e => ⟨rec, e, rfl, rfl, rfl, rfl⟩
theorem LK.trans {w w' w'' : World} (a : LK w w') (b : LK w' w'') : LK w w'' := fun l rec e => by
  obtain ⟨r1, e1, h1, h2, h3, h4⟩ := a l rec e
  obtain ⟨r2, e2, k1, k2, k3, k4⟩ := b l r1 e1
  exact ⟨r2, e2, k1.trans h1, k2.trans h2, k3.trans h3, k4.trans h4⟩
theorem SiteR.mono {φ ψ : Id → Option Plc} {w w' : World} {s : Site} {c : Conc} (h : SiteR φ w s c) (hm : More φ ψ) (hk : LK w w') : SiteR ψ w' s c := by
  obtain ⟨rec, e, h1, h2, h3, h4⟩ := h.rc
  obtain ⟨rec', e', k1, k2, k3, k4⟩ := hk _ _ e
  exact ⟨let ⟨K, e⟩ := h.pl; ⟨K, hm _ _ e⟩, ⟨rec', e', k1.trans h1, k2.trans h2, k3.trans h3, k4.trans h4⟩, h.sz, h.cap, fun d hd => (h.at' d hd).more hm, h.lo, h.df⟩
theorem LoopsR.mono {φ ψ : Id → Option Plc} {w w' : World} (hm : More φ ψ) (hk : LK w w') : ∀ {ss : List Site} {cs : List Conc}, LoopsR φ w ss cs → LoopsR ψ w' ss cs
  | [], _, _ => trivial
  | s :: ss, c :: cs, ⟨h1, h2⟩ => ⟨h1.mono hm hk, LoopsR.mono hm hk h2⟩
  | _ :: _, [], h => h.elim
structure Bse (sts : List Site) where
  b : Nat
  cs : List Conc
class Tabs where
  m : List (Nat × Blk)
def AV.lenB : AV → Nat
  | .cons _ r => r.lenB + 1
  | _ => 0
def Blk.cl : Blk → Nat
  | .row _ _ _ _ cells => cells.lenB
  | _ => 0
def TabsR [T : Tabs] (b : Nat) (w : World) : Prop := ∀ p ∈ T.m, p.1 < b ∧ p.2.ro = true ∧ ∃ o, w.heap[p.1]? = some o ∧ ∀ φ, p.2.says φ (p.2.cl, 0) o
variable [Tabs]
theorem TabsR.keep {b : Nat} {w w' : World} (h : TabsR b w) (k : ∀ j, j < b → w'.heap[j]? = w.heap[j]?) : TabsR b w' := fun p hp => by
  obtain ⟨h1, h2, o, h3, h4⟩ := h p hp
  exact ⟨h1, h2, o, (k _ h1).trans h3, h4⟩
structure WR (φ : Id → Option Plc) {sts : List Site} (B : Bse sts) (h : Mem) (nx : Id) (w : World) : Prop where
  len : nx.length = DB
  fresh : ∀ r, h.get r ≠ none ∨ φ r ≠ none → r.length = DB ∧ num r < num nx
  blk : ∀ r x g, h.get r = some x → φ r = some g → ∃ o, w.heap[g.1]? = some o ∧ x.says φ g.2 o
  inj : ∀ r r' x x' g g', h.get r = some x → h.get r' = some x' → φ r = some g → φ r' = some g' → g.1 = g'.1 → r = r'
  lt : ∀ r g, φ r = some g → g.1 < w.heap.size
  base : ∀ r x g, h.get r = some x → x.ro = false → φ r = some g → B.b ≤ g.1
  bsz : B.b ≤ w.heap.size
  loops : LoopsR φ w sts B.cs
  tabs : TabsR B.b w
structure RW (φ : Id → Option Plc) (h : Mem) (w : World) : Prop where
  blk : ∀ r x g, h.get r = some x → φ r = some g → ∃ o, w.heap[g.1]? = some o ∧ x.says φ g.2 o
theorem WR.rw {φ : Id → Option Plc} {sts : List Site} {B : Bse sts} {h : Mem} {nx : Id} {w : World} (hw : WR φ B h nx w) : RW φ h w := ⟨hw.blk⟩
def Own (φ : Id → Option Plc) (h : Mem) (b : Nat) : Prop := ∃ r x g, h.get r = some x ∧ x.ro = false ∧ φ r = some g ∧ g.1 = b
structure Step (φ : Id → Option Plc) (h : Mem) (nx : Id) (w : World) (ψ : Id → Option Plc) (h' : Mem) (nx' : Id) (w' : World) : Prop where
  more : More φ ψ
  os : w'.os = w.os
  tape : w'.tape = w.tape
  out : w'.output = w.output
  size : w.heap.size ≤ w'.heap.size
  keep : ∀ g, g < w.heap.size → ¬ Own φ h g → w'.heap[g]? = w.heap[g]?
  back : ∀ g, g < w.heap.size → Own ψ h' g → Own φ h g
  ghost : ∀ r x, h.get r = some x → φ r = none → h'.get r = some x ∧ ψ r = none
  next : num nx ≤ num nx'
  old : ∀ r, r.length = DB → num r < num nx → ψ r = φ r
  lk : LK w w'
section
variable {φ ψ χ : Id → Option Plc} {h h' h'' : Mem} {nx nx' nx'' : Id} {w w' w'' : World} {sts : List Site} {B : Bse sts}
theorem Step.refl : Step φ h nx w φ h nx w := ⟨.refl _, rfl, rfl, rfl, Nat.le_refl _, fun _ _ _ => rfl, fun _ _ h => h, fun _ _ h k => ⟨h, k⟩, Nat.le_refl _, fun _ _ _ => rfl, LK.refl _⟩
theorem Step.trans (a : Step φ h nx w ψ h' nx' w') (b : Step ψ h' nx' w' χ h'' nx'' w'') : Step φ h nx w χ h'' nx'' w'' where
  more := a.more.trans b.more
  os := b.os.trans a.os
  tape := b.tape.trans a.tape
  out := b.out.trans a.out
  size := Nat.le_trans a.size b.size
  keep g hg hn := (b.keep g (Nat.lt_of_lt_of_le hg a.size) (fun ho => hn (a.back g hg ho))).trans (a.keep g hg hn)
  back g hg ho := a.back g hg (b.back g (Nat.lt_of_lt_of_le hg a.size) ho)
  ghost r x hr hn := by
    obtain ⟨h1, h2⟩ := a.ghost r x hr hn
    exact b.ghost r x h1 h2
  next := Nat.le_trans a.next b.next
  old r hl hr := (b.old r hl (Nat.lt_of_lt_of_le hr a.next)).trans (a.old r hl hr)
  lk := a.lk.trans b.lk
theorem Step.below (hw : WR φ B h nx w) (a : Step φ h nx w ψ h' nx' w') : Below B.b w w' :=
  ⟨a.os, a.tape, a.out, a.size, fun b hb => a.keep b (Nat.lt_of_lt_of_le hb hw.bsz) (fun ⟨r, x, g, h1, h2, h3, h4⟩ => by have := hw.base r x g h1 h2 h3; omega)⟩
end
structure NewW (w : World) (o : Obj) (w' : World) : Prop where
  os : w'.os = w.os
  tape : w'.tape = w.tape
  out : w'.output = w.output
  size : w'.heap.size = w.heap.size + 1
  old : ∀ j, j < w.heap.size → w'.heap[j]? = w.heap[j]?
  at' : w'.heap[w.heap.size]? = some o
theorem NewW.alloc (w : World) (o : Obj) : NewW w o (w.alloc o) := ⟨rfl, rfl, rfl, by simp, fun j hj => Below.heap_alloc w o j hj, heap_alloc_new w o⟩
def ext (φ : Id → Option Plc) (r : Id) (g : Plc) : Id → Option Plc := fun q => if q = r then some g else φ q
theorem ext_same (φ : Id → Option Plc) (r : Id) (g : Plc) : ext φ r g r = some g := by simp [ext]
theorem ext_other (φ : Id → Option Plc) {r q : Id} (g : Plc) (h : q ≠ r) : ext φ r g q = φ q := by simp [ext, h]
theorem ext_more {φ : Id → Option Plc} {r : Id} (g : Plc) (h : φ r = none) : More φ (ext φ r g) := fun q k e => by
  by_cases hq : q = r
  · subst hq; rw [h] at e; cases e
  · rw [ext_other φ g hq]; exact e
section
variable {φ : Id → Option Plc} {h : Mem} {nx : Id} {w : World} {sts : List Site} {B : Bse sts}
theorem WR.nx_none (hw : WR φ B h nx w) : h.get nx = none ∧ φ nx = none := by
  constructor
  · cases e : h.get nx with
    | none => rfl
    | some x => have := (hw.fresh nx (.inl (by rw [e]; simp))).2; omega
  · cases e : φ nx with
    | none => rfl
    | some x => have := (hw.fresh nx (.inr (by rw [e]; simp))).2; omega
theorem WR.new (hw : WR φ B h nx w) (hl : last nx = false) {x : Blk} {o : Obj} {K : Nat × Nat} {w' : World} (hx : x.says φ K o) (hn : NewW w o w') :
    WR (ext φ nx (w.heap.size, K)) B (h.set nx x) (inc nx) w' ∧ Step φ h nx w (ext φ nx (w.heap.size, K)) (h.set nx x) (inc nx) w' := by
  obtain ⟨hn1, hn2⟩ := hw.nx_none
  have hm : More φ (ext φ nx (w.heap.size, K)) := ext_more _ hn2
  have hinc := inc_num nx hl
  have hd : nx.length = DB := hw.len
  have hne : ∀ r, h.get r ≠ none ∨ φ r ≠ none → r ≠ nx := fun r hr e => by subst e; have := (hw.fresh _ hr).2; omega
  have back : ∀ r y, (h.set nx x).get r = some y → r ≠ nx → h.get r = some y := fun r y e hr => T4.get_of_set x nx r h y e hr
  have same : (h.set nx x).get nx = some x := T4.get_set_same x nx h
  have fwd : ∀ r y, h.get r = some y → (h.set nx x).get r = some y := fun r y e => by
    have hf := hw.fresh r (.inl (by rw [e]; simp))
    exact (T4.get_set_other x nx r h (hd.trans hf.1.symm) (hne r (.inl (by rw [e]; simp)))).trans e
  have hlt : ∀ r g, φ r = some g → g.1 ≠ w.heap.size := fun r g e => Nat.ne_of_lt (hw.lt r g e)
  constructor
  · refine ⟨by rw [inc_len]; exact hd, fun r hr => ?_, fun r y g hr hg => ?_, fun r r' y y' g g' hr hr' hg hg' hgg => ?_, fun r g hg => ?_, fun r y g hr hy hg => ?_, by rw [hn.size]; have := hw.bsz; omega, hw.loops.mono hm (LK.same hn.old), hw.tabs.keep fun j hj => hn.old j (Nat.lt_of_lt_of_le hj hw.bsz)⟩
    · by_cases hq : r = nx
      · subst hq; exact ⟨hd, by rw [hinc]; omega⟩
      · have : h.get r ≠ none ∨ φ r ≠ none := by
          rcases hr with hr | hr
          · left
            cases e : (h.set nx x).get r with
            | none => exact absurd e hr
            | some y => rw [back r y e hq]; simp
          · right; rw [ext_other φ _ hq] at hr; exact hr
        have hf := hw.fresh r this
        exact ⟨hf.1, by rw [hinc]; omega⟩
    · by_cases hq : r = nx
      · subst hq
        rw [same] at hr
        rw [ext_same] at hg
        cases hr; cases hg
        exact ⟨o, hn.at', Blk.says_more hm hx⟩
      · rw [ext_other φ _ hq] at hg
        obtain ⟨o', h1, h2⟩ := hw.blk r y g (back r y hr hq) hg
        exact ⟨o', (hn.old g.1 (hw.lt r g hg)).trans h1, Blk.says_more hm h2⟩
    · by_cases hq : r = nx
      · subst hq
        rw [ext_same] at hg
        cases hg
        by_cases hq' : r' = r
        · exact hq'.symm
        · rw [ext_other φ _ hq'] at hg'
          exact absurd hgg.symm (hlt r' _ hg')
      · rw [ext_other φ _ hq] at hg
        by_cases hq' : r' = nx
        · subst hq'
          rw [ext_same] at hg'
          cases hg'
          exact absurd hgg (hlt r _ hg)
        · rw [ext_other φ _ hq'] at hg'
          exact hw.inj r r' y y' g g' (back r y hr hq) (back r' y' hr' hq') hg hg' hgg
    · by_cases hq : r = nx
      · subst hq; rw [ext_same] at hg; cases hg; show w.heap.size < _; rw [hn.size]; omega
      · rw [ext_other φ _ hq] at hg; have := hw.lt r g hg; rw [hn.size]; omega
    · by_cases hq : r = nx
      · subst hq; rw [ext_same] at hg; cases hg; exact hw.bsz
      · rw [ext_other φ _ hq] at hg; exact hw.base r y g (back r y hr hq) hy hg
  · refine ⟨hm, hn.os, hn.tape, hn.out, by rw [hn.size]; omega, fun g hg _ => hn.old g hg, fun g hg ⟨r, y, g', h1, h2, h3, h4⟩ => ?_, fun r y hr hn' => ⟨fwd r y hr, by rw [ext_other φ _ (hne r (.inl (by rw [hr]; simp)))]; exact hn'⟩, by rw [hinc]; omega, fun r hr hl => ext_other φ _ (fun e => by subst e; omega), LK.same hn.old⟩
    by_cases hq : r = nx
    · subst hq; rw [ext_same] at h3; cases h3; simp only at h4; omega
    · rw [ext_other φ _ hq] at h3
      exact ⟨r, y, g', back r y h1 hq, h2, h3, h4⟩
theorem WR.put (hw : WR φ B h nx w) {r : Id} {x y : Blk} {g : Plc} {w' : World} {o : Obj} (hr : h.get r = some x) (hx : x.ro = false) (hy : y.ro = false) (hg : φ r = some g)
    (hos : w'.os = w.os) (htape : w'.tape = w.tape) (hout : w'.output = w.output) (hsz : w'.heap.size = w.heap.size) (hkeep : ∀ k, k ≠ g.1 → w'.heap[k]? = w.heap[k]?) (hat : w'.heap[g.1]? = some o) (ho : y.says φ g.2 o) (hlp : x.lp = false ∨ ∀ rec : Loop, w.heap[g.1]? = some (.loop rec) → ∃ rec' : Loop, o = .loop rec' ∧ rec'.tmps = rec.tmps ∧ rec'.params = rec.params ∧ rec'.assign = rec.assign ∧ rec'.body = rec.body := by exact Or.inl rfl) :
    WR φ B (h.set r y) nx w' ∧ Step φ h nx w φ (h.set r y) nx w' := by
  have hlk : LK w w' := by
    intro l rec e
    by_cases hl : l = g.1
    · subst hl
      rcases hlp with hlp | hlp
      · obtain ⟨o0, e0, h0⟩ := hw.blk r x g hr hg
        rw [e] at e0
        cases e0
        exact (Blk.says_not_loop hlp h0).elim
      · obtain ⟨rec', e1, h1⟩ := hlp rec e
        exact ⟨rec', by rw [hat, e1], h1⟩
    · exact ⟨rec, by rw [hkeep l hl]; exact e, rfl, rfl, rfl, rfl⟩
  have hrl := (hw.fresh r (.inl (by rw [hr]; simp))).1
  have back : ∀ q z, (h.set r y).get q = some z → q ≠ r → h.get q = some z := fun q z e hq => T4.get_of_set y r q h z e hq
  have same : (h.set r y).get r = some y := T4.get_set_same y r h
  have fwd : ∀ q z, h.get q = some z → q ≠ r → (h.set r y).get q = some z := fun q z e hq => by
    have hf := hw.fresh q (.inl (by rw [e]; simp))
    exact (T4.get_set_other y r q h (hrl.trans hf.1.symm) hq).trans e
  constructor
  · refine ⟨hw.len, fun q hq => hw.fresh q ?_, fun q z k hq hk => ?_, fun q q' z z' k k' hq hq' hk hk' hkk => ?_, fun q k hk => by rw [hsz]; exact hw.lt q k hk, fun q z k hq hz hk => ?_, by rw [hsz]; exact hw.bsz, hw.loops.mono (.refl _) hlk, hw.tabs.keep fun j hj => hkeep j (by have := hw.base r x g hr hx hg; omega)⟩
    · rcases hq with hq | hq
      · left
        by_cases e : q = r
        · subst e; rw [hr]; simp
        · cases e' : (h.set r y).get q with
          | none => exact absurd e' hq
          | some z => rw [back q z e' e]; simp
      · exact .inr hq
    · by_cases e : q = r
      · subst e
        rw [same] at hq
        rw [hg] at hk
        cases hq; cases hk
        exact ⟨o, hat, ho⟩
      · have hz := back q z hq e
        obtain ⟨o', h1, h2⟩ := hw.blk q z k hz hk
        exact ⟨o', (hkeep k.1 (fun ek => e (hw.inj q r z x _ _ hz hr hk hg ek))).trans h1, h2⟩
    · have hz : ∃ z0, h.get q = some z0 := by
        by_cases e : q = r
        · exact ⟨x, by rw [e]; exact hr⟩
        · exact ⟨z, back q z hq e⟩
      have hz' : ∃ z0, h.get q' = some z0 := by
        by_cases e : q' = r
        · exact ⟨x, by rw [e]; exact hr⟩
        · exact ⟨z', back q' z' hq' e⟩
      obtain ⟨z0, hz⟩ := hz
      obtain ⟨z0', hz'⟩ := hz'
      exact hw.inj q q' z0 z0' k k' hz hz' hk hk' hkk
    · by_cases e : q = r
      · subst e; exact hw.base q x k hr hx hk
      · exact hw.base q z k (back q z hq e) hz hk
  · refine ⟨.refl _, hos, htape, hout, by rw [hsz]; exact Nat.le_refl _, fun k hk hn => hkeep k (fun e => hn (by subst e; exact ⟨r, x, g, hr, hx, hg, rfl⟩)), fun k hk ⟨q, z, g', h1, h2, h3, h4⟩ => ?_, fun q z hq hn => ⟨fwd q z hq (fun e => by subst e; rw [hg] at hn; cases hn), hn⟩, Nat.le_refl _, fun _ _ _ => rfl, hlk⟩
    by_cases e : q = r
    · subst e; exact ⟨q, x, g', hr, hx, h3, h4⟩
    · exact ⟨q, z, g', back q z h1 e, h2, h3, h4⟩
end
end Go.Proofs.YtknjkljigmepjaaGreatDoor.Clo
end
section
namespace Go.Proofs.YtknjkljigmepjaaGreatDoor.Clo
open Go.RowKit
set_option linter.unusedVariables false
set_option linter.unusedSimpArgs false
variable [Tabs]
def Runs {α : Type} (P : Program) (s : Sem α) (w : World) (Q : α → World → Prop) : Prop := ∃ a w', s.run P w = .ok a w' ∧ Q a w'
section
variable {α β : Type} {P : Program} {w : World}
theorem Runs.pure {a : α} {Q : α → World → Prop} (h : Q a w) : Runs P (Pure.pure a : Sem α) w Q := ⟨a, w, rfl, h⟩
theorem Runs.ret {a : α} {Q : α → World → Prop} (h : Q a w) : Runs P (Sem.pure a) w Q := ⟨a, w, rfl, h⟩
theorem Runs.bind {s : Sem α} {f : α → Sem β} {Q : β → World → Prop} (h : Runs P s w fun a w' => Runs P (f a) w' Q) : Runs P (s >>= f) w Q := by
  obtain ⟨a, w1, h1, b, w2, h2, h3⟩ := h
  refine ⟨b, w2, ?_, h3⟩
  rw [Sem.run_bind, h1]
  exact h2
theorem Runs.mono {s : Sem α} {Q R : α → World → Prop} (h : Runs P s w Q) (k : ∀ a w, Q a w → R a w) : Runs P s w R := by
  obtain ⟨a, w1, h1, h2⟩ := h
  exact ⟨a, w1, h1, k _ _ h2⟩
theorem Runs.of {s : Sem α} {a : α} {w' : World} {Q : α → World → Prop} (h : s.run P w = .ok a w') (k : Q a w') : Runs P s w Q := ⟨a, w', h, k⟩
theorem runs_underlying {t : TypeId} {d : TypeDesc} {Q : TypeDesc → World → Prop} (hd : P.underlying t = some d) (h : Q d w) : Runs P (underlying t) w Q := by
  refine ⟨d, w, ?_, h⟩
  unfold underlying
  rw [Sem.run_bind]
  show (match P.underlying t with | some d => Pure.pure d | none => stuck "no such type" : Sem TypeDesc).run P w = _
  rw [hd]
  rfl
theorem runs_typeInfo {t : TypeId} {d : TypeInfo} {Q : TypeInfo → World → Prop} (hd : P.info? t = some d) (h : Q d w) : Runs P (typeInfo t) w Q := by
  refine ⟨d, w, ?_, h⟩
  unfold typeInfo
  rw [Sem.run_bind]
  show (match P.info? t with | some d => Pure.pure d | none => stuck "no such type" : Sem TypeInfo).run P w = _
  rw [hd]
  rfl
theorem runs_sizeOf {t : TypeId} {d : TypeInfo} {Q : Nat → World → Prop} (hd : P.info? t = some d) (h : Q d.size w) : Runs P (sizeOf t) w Q := by
  unfold sizeOf
  exact .bind (runs_typeInfo hd (.pure h))
theorem runs_zero {t : TypeId} {d : TypeInfo} {v : Value} {Q : Value → World → Prop} (hd : P.info? t = some d) (hv : d.zero = some v) (h : Q v w) : Runs P (zeroValue t) w Q := by
  unfold zeroValue
  refine .bind (runs_typeInfo hd ?_)
  rw [hv]
  exact .pure h
def aggT (P : Program) (t : TypeId) : Option Bool := match P.underlying t with
  | some (.struct _) | some (.array _ _) => some true
  | some _ => some false
  | none => none
theorem runs_isAgg {t : TypeId} {b : Bool} {Q : Bool → World → Prop} (hd : aggT P t = some b) (h : Q b w) : Runs P (isAgg t) w Q := by
  unfold isAgg
  unfold aggT at hd
  cases hu : P.underlying t with
  | none => rw [hu] at hd; cases hd
  | some d =>
    rw [hu] at hd
    refine .bind (runs_underlying hu ?_)
    cases d <;> simp only [Option.some.injEq] at hd <;> subst hd <;> exact .pure h
theorem runs_load {a : Addr} {v : Value} {Q : Value → World → Prop} (hv : w.cell? a = some v) (h : Q v w) : Runs P (load a) w Q := by
  refine ⟨v, w, ?_, h⟩
  simp [load, Sem.run, hv]
end
def AV.len : AV → Nat
  | .cons _ r => r.len + 1
  | _ => 0
noncomputable def AV.at (n : Nat) : AV → AV :=
  Nat.rec (motive := fun _ => AV → AV) (fun l => match l with | .cons x _ => x | _ => .u) (fun _ ih l => match l with | .cons _ r => ih r | _ => .u) n
noncomputable def AV.drop (n : Nat) : AV → AV :=
  Nat.rec (motive := fun _ => AV → AV) (fun l => l) (fun _ ih l => match l with | .cons _ r => ih r | _ => .nil) n
noncomputable def AV.take (n : Nat) : AV → AV :=
  Nat.rec (motive := fun _ => AV → AV) (fun _ => .nil) (fun _ ih l => match l with | .cons x r => .cons x (ih r) | _ => .nil) n
noncomputable def AV.setAt (n : Nat) : AV → AV → AV :=
  Nat.rec (motive := fun _ => AV → AV → AV) (fun v l => match l with | .cons _ r => .cons v r | l => l) (fun _ ih v l => match l with | .cons x r => .cons x (ih v r) | l => l) n
def AV.app : AV → AV → AV
  | .cons x r, m => .cons x (r.app m)
  | _, m => m
section
variable {φ : Id → Option Plc}
theorem VL.nil : VL φ .nil [] := rfl
theorem VL.cons {x r : AV} {v : Value} {vs : List Value} (h : VR φ x v) (k : VL φ r vs) : VL φ (.cons x r) (v :: vs) := ⟨v, vs, rfl, h, k⟩
theorem VL.len : ∀ {x : AV} {l : List Value}, VL φ x l → l.length = x.len
  | .nil, l, h => by have : l = [] := h; subst this; rfl
  | .cons x r, l, ⟨v, vs, e, _, h⟩ => by subst e; simp [AV.len, VL.len h]
theorem VL.at : ∀ {x : AV} {l : List Value} (_ : VL φ x l) {i : Nat} {v : Value}, l[i]? = some v → VR φ (x.at i) v
  | .nil, l, h, i, v, hv => by have : l = [] := h; subst this; simp at hv
  | .cons x r, l, ⟨v0, vs, e, h1, h2⟩, 0, v, hv => by subst e; simp at hv; subst hv; exact h1
  | .cons x r, l, ⟨v0, vs, e, h1, h2⟩, i + 1, v, hv => by subst e; simp at hv; exact VL.at h2 hv
theorem VL.drop : ∀ (n : Nat) {x : AV} {l : List Value}, VL φ x l → VL φ (x.drop n) (l.drop n)
  | 0, x, l, h => h
  | n + 1, .nil, l, h => by have : l = [] := h; subst this; exact rfl
  | n + 1, .cons x r, l, ⟨v, vs, e, h1, h2⟩ => by subst e; exact VL.drop n h2
theorem VL.take : ∀ (n : Nat) {x : AV} {l : List Value}, VL φ x l → VL φ (x.take n) (l.take n)
  | 0, x, l, h => rfl
  | n + 1, .nil, l, h => by have : l = [] := h; subst this; exact rfl
  | n + 1, .cons x r, l, ⟨v, vs, e, h1, h2⟩ => by subst e; exact ⟨v, _, rfl, h1, VL.take n h2⟩
theorem VL.setAt : ∀ (n : Nat) {x y : AV} {l : List Value} {v : Value}, VL φ x l → VR φ y v → VL φ (AV.setAt n y x) (l.set n v)
  | n, .nil, y, l, v, h, k => by have : l = [] := h; subst this; cases n <;> exact rfl
  | 0, .cons x r, y, l, v, ⟨v0, vs, e, h1, h2⟩, k => by subst e; exact ⟨v, vs, rfl, k, h2⟩
  | n + 1, .cons x r, y, l, v, ⟨v0, vs, e, h1, h2⟩, k => by subst e; exact ⟨v0, _, rfl, h1, VL.setAt n h2 k⟩
theorem VL.app : ∀ {x y : AV} {l m : List Value}, VL φ x l → VL φ y m → VL φ (x.app y) (l ++ m)
  | .nil, y, l, m, h, k => by have : l = [] := h; subst this; exact k
  | .cons x r, y, l, m, ⟨v, vs, e, h1, h2⟩, k => by subst e; exact ⟨v, _, rfl, h1, VL.app h2 k⟩
end
end Go.Proofs.YtknjkljigmepjaaGreatDoor.Clo
end
section
namespace Go.Proofs.YtknjkljigmepjaaGreatDoor.Clo
open Go.RowKit
set_option linter.unusedVariables false
set_option linter.unusedSimpArgs false
variable [Tabs]
theorem add_lit (g o n : Nat) : (⟨g, o, none⟩ : Addr).add n = ⟨g, o + n, none⟩ := by
  unfold Addr.add
  split <;> simp_all
section
variable {φ : Id → Option Plc} {h : Mem} {nx : Id} {w : World} {sts : List Site} {B : Bse sts} {P : Program}
theorem RW.row (hw : RW φ h w) {r : Id} {t : TypeId} {gr : Bool} {fz : Option Nat} {ro : Bool} {cells : AV} {g : Plc} (hr : h.get r = some (.row t gr fz ro cells)) (hg : φ r = some g) :
    ∃ (c : Array Value) (pre l rest : List Value) (m : Nat × Nat), w.heap[g.1]? = some (.cells c t m) ∧ c.toList = pre ++ (l ++ rest) ∧ VL φ cells l ∧ (gr = false → rest = [] ∧ pre = []) ∧ c.size = g.2.1 ∧ pre.length = g.2.2 ∧ FzR fz m g.2.1 g.2.2 := by
  obtain ⟨o, h1, c, pre, l, rest, m, h2, h3, h4, h5, h6⟩ := hw.blk r _ g hr hg
  exact ⟨c, pre, l, rest, m, by rw [h1, h2], h3, h4, h5, h6⟩
theorem cell_row {c : Array Value} {pre l rest : List Value} {t : TypeId} {fr : Nat × Nat} {g b i : Nat} {v : Value} (h1 : w.heap[g]? = some (.cells c t fr)) (h2 : c.toList = pre ++ (l ++ rest)) (hb : pre.length = b) (hv : l[i]? = some v) : w.cell? ⟨g, b + i, none⟩ = some v := by
  subst hb
  rw [cell_of_row w g _ c t fr h1, ← Array.getElem?_toList, h2, List.getElem?_append_right (Nat.le_add_right _ _), Nat.add_sub_cancel_left, List.getElem?_append_left (List.getElem?_eq_some_iff.1 hv).1]
  exact hv
theorem RW.cell (hw : RW φ h w) {r : Id} {t : TypeId} {gr : Bool} {fz : Option Nat} {ro : Bool} {cells : AV} {g : Plc} {i : Nat} (hr : h.get r = some (.row t gr fz ro cells)) (hg : φ r = some g) (hi : i < cells.len) :
    ∃ v, w.cell? ⟨g.1, g.2.2 + i, none⟩ = some v ∧ VR φ (cells.at i) v := by
  obtain ⟨c, pre, l, rest, m, h1, h2, h3, _, _, hb, _⟩ := hw.row hr hg
  have hl := VL.len h3
  have hv : l[i]? = some (l[i]'(by omega)) := List.getElem?_eq_getElem (by omega)
  exact ⟨_, cell_row h1 h2 hb hv, VL.at h3 hv⟩
theorem RW.cells (hw : RW φ h w) {r : Id} {t : TypeId} {gr : Bool} {fz : Option Nat} {ro : Bool} {cells : AV} {g : Plc} {o n : Nat} (hr : h.get r = some (.row t gr fz ro cells)) (hg : φ r = some g) (hn : o + n ≤ cells.len) :
    ∃ vs : List Value, (loadCells ⟨g.1, g.2.2 + o, none⟩ n).run P w = .ok vs.toArray w ∧ VL φ ((cells.drop o).take n) vs ∧ vs.length = n ∧ ∀ j v, vs[j]? = some v → w.cell? ⟨g.1, g.2.2 + o + j, none⟩ = some v := by
  obtain ⟨c, pre, l, rest, m, h1, h2, h3, _, _, hb, _⟩ := hw.row hr hg
  have hl := VL.len h3
  have hlen : ((l.drop o).take n).length = n := by rw [List.length_take, List.length_drop]; omega
  have hat : ∀ j v, ((l.drop o).take n)[j]? = some v → w.cell? ⟨g.1, g.2.2 + o + j, none⟩ = some v := fun j v hv => by
    rw [Nat.add_assoc]
    refine cell_row h1 h2 hb ?_
    rw [List.getElem?_take] at hv
    split at hv
    · rw [List.getElem?_drop] at hv; exact hv
    · cases hv
  refine ⟨(l.drop o).take n, ?_, VL.take n (VL.drop o h3), hlen, hat⟩
  have := run_loadCells_list (P := P) (w := w) ⟨g.1, g.2.2 + o, none⟩ ((l.drop o).take n) (fun j v hv => by rw [add_lit]; exact hat j v hv)
  rw [hlen] at this
  exact this
noncomputable def AV.setMany0 : AV → Nat → AV → AV
  | .cons y r, o, x => r.setMany0 (o + 1) (AV.setAt o y x)
  | _, _, x => x
noncomputable def AV.setMany (y : AV) (o : Nat) (x : AV) : AV :=
  Bool.rec (motive := fun _ => AV) (y.setMany0 o x) (Bool.rec (motive := fun _ => AV) (y.setMany0 o x) y (Nat.beq y.len x.len)) (Nat.beq o 0)
def setManyA : List Value → Nat → Array Value → Array Value
  | [], _, c => c
  | v :: r, o, c => setManyA r (o + 1) (c.setIfInBounds o v)
theorem setCell_row (w : World) (g o : Nat) (c : Array Value) (t : TypeId) (fr : Nat × Nat) (v : Value) (h : w.heap[g]? = some (.cells c t fr)) : (w.setCell ⟨g, o, none⟩ v).heap[g]? = some (.cells (c.setIfInBounds o v) t fr) := by
  simp [World.setCell, Array.getElem?_modify, h]
theorem setCells_row (g : Nat) (t : TypeId) (fr : Nat × Nat) : ∀ (vs : List Value) (o : Nat) (w : World) (c : Array Value), w.heap[g]? = some (.cells c t fr) → (w.setCells g o vs).heap[g]? = some (.cells (setManyA vs o c) t fr)
  | [], _, _, _, h => h
  | v :: r, o, w, c, h => setCells_row g t fr r (o + 1) _ _ (setCell_row w g o c t fr v h)
theorem setCells_other (g : Nat) : ∀ (vs : List Value) (o : Nat) (w : World) (k : Nat), k ≠ g → (w.setCells g o vs).heap[k]? = w.heap[k]?
  | [], _, _, _, _ => rfl
  | v :: r, o, w, k, h => (setCells_other g r (o + 1) _ k h).trans (heap_setCell_other w _ k _ h)
theorem setCells_meta (g : Nat) : ∀ (vs : List Value) (o : Nat) (w : World), (w.setCells g o vs).os = w.os ∧ (w.setCells g o vs).tape = w.tape ∧ (w.setCells g o vs).output = w.output ∧ (w.setCells g o vs).heap.size = w.heap.size
  | [], _, _ => ⟨rfl, rfl, rfl, rfl⟩
  | v :: r, o, w => by
    obtain ⟨h1, h2, h3, h4⟩ := setCells_meta g r (o + 1) (w.setCell ⟨g, o, none⟩ v)
    exact ⟨h1, h2, h3, h4.trans (by simp [World.setCell])⟩
theorem setManyA_size : ∀ (vs : List Value) (o : Nat) (c : Array Value), (setManyA vs o c).size = c.size
  | [], _, _ => rfl
  | v :: r, o, c => (setManyA_size r (o + 1) _).trans (by simp)
theorem VL.setMany0 : ∀ {y x : AV} {vs pre l rest : List Value} {o b : Nat} {c : Array Value}, VL φ y vs → VL φ x l → c.toList = pre ++ (l ++ rest) → pre.length = b → o + vs.length ≤ l.length →
    ∃ l', (setManyA vs (b + o) c).toList = pre ++ (l' ++ rest) ∧ VL φ (y.setMany0 o x) l'
  | .nil, x, vs, pre, l, rest, o, b, c, h, k, e, hb, hl => by have : vs = [] := h; subst this; exact ⟨l, e, k⟩
  | .cons y r, x, vs, pre, l, rest, o, b, c, ⟨v, vs', e', h1, h2⟩, k, e, hb, hl => by
    subst e'
    simp only [List.length_cons] at hl
    have e2 : (c.setIfInBounds (b + o) v).toList = pre ++ (l.set o v ++ rest) := by rw [Array.toList_setIfInBounds, e, List.set_append_right _ _ (by omega), hb, Nat.add_sub_cancel_left, List.set_append_left _ _ (by omega)]
    have := VL.setMany0 h2 (VL.setAt o k h1) e2 hb (o := o + 1) (by rw [List.length_set]; omega)
    exact this
theorem setManyA_all : ∀ (vs : List Value) (o : Nat) (c : Array Value) (a l rest : List Value), c.toList = a ++ (l ++ rest) → a.length = o → vs.length = l.length → (setManyA vs o c).toList = a ++ (vs ++ rest)
  | [], o, c, a, l, rest, h, ha, hl => by
    have : l = [] := List.length_eq_zero_iff.1 hl.symm
    subst this
    exact h
  | v :: r, o, c, a, l, rest, h, ha, hl => by
    cases l with
    | nil => cases hl
    | cons y l =>
    have e : (c.setIfInBounds o v).toList = (a ++ [v]) ++ (l ++ rest) := by
      rw [Array.toList_setIfInBounds, h, ← ha, List.set_append_right _ _ (Nat.le_refl _)]
      simp
    have := setManyA_all r (o + 1) (c.setIfInBounds o v) (a ++ [v]) l rest e (by simp [ha]) (by simpa using hl)
    simpa [setManyA] using this
theorem VL.setMany {y x : AV} {vs pre l rest : List Value} {o b : Nat} {c : Array Value} (h : VL φ y vs) (k : VL φ x l) (e : c.toList = pre ++ (l ++ rest)) (hb : pre.length = b) (hl : o + vs.length ≤ l.length) :
    ∃ l', (setManyA vs (b + o) c).toList = pre ++ (l' ++ rest) ∧ VL φ (y.setMany o x) l' := by
  have slow := VL.setMany0 h k e hb hl
  unfold AV.setMany
  cases h1 : Nat.beq o 0 with
  | false => exact slow
  | true =>
    cases h2 : Nat.beq y.len x.len with
    | false => exact slow
    | true =>
      have h1' := Nat.eq_of_beq_eq_true h1
      have h2' := Nat.eq_of_beq_eq_true h2
      subst h1'
      have hv := VL.len h
      have hx := VL.len k
      exact ⟨vs, setManyA_all vs (b + 0) c pre l rest e hb (by omega), h⟩
def okF (fz : Option Nat) (q : Nat) : Bool := match fz with
  | some z => Nat.ble z q
  | none => false
theorem okF_not {fz : Option Nat} {q i K b : Nat} {m : Nat × Nat} (h : okF fz q = true) (hm : FzR fz m K b) (hi : i < K) (hq : b + q ≤ i) : ¬ (m.1 ≤ i ∧ i < m.2) := by
  intro ⟨h1, h2⟩
  cases fz with
  | none => cases h
  | some z =>
    have := hm i hi h1 h2
    have hz : z ≤ q := Nat.le_of_ble_eq_true h
    omega
theorem WR.store (hw : WR φ B h nx w) {r : Id} {t : TypeId} {gr : Bool} {fz : Option Nat} {cells : AV} {g : Plc} {o : Nat} (hr : h.get r = some (.row t gr fz false cells)) (hg : φ r = some g) {y : AV} {vs : List Value} (hy : VL φ y vs) (hn : o + vs.length ≤ cells.len) (hf : okF fz o = true) (h1 : ∀ v ∈ vs, v.oneCell' = true) :
    (storeCells ⟨g.1, g.2.2 + o, none⟩ vs).run P w = .ok () (w.setCells g.1 (g.2.2 + o) vs) ∧ WR φ B (h.set r (.row t gr fz false (y.setMany o cells))) nx (w.setCells g.1 (g.2.2 + o) vs) ∧ Step φ h nx w φ (h.set r (.row t gr fz false (y.setMany o cells))) nx (w.setCells g.1 (g.2.2 + o) vs) := by
  obtain ⟨c, pre, l, rest, m, e1, e2, e3, e4, e7, hb, e8⟩ := hw.rw.row hr hg
  have hl := VL.len e3
  obtain ⟨l', e5, e6⟩ := VL.setMany hy e3 e2 hb (o := o) (by omega)
  obtain ⟨m1, m2, m3, m4⟩ := setCells_meta g.1 vs (g.2.2 + o) w
  refine ⟨?_, hw.put hr rfl rfl hg m1 m2 m3 m4 (fun k hk => setCells_other g.1 vs (g.2.2 + o) w k hk) (setCells_row g.1 t m vs (g.2.2 + o) w c e1) ⟨_, pre, l', rest, m, rfl, e5, e6, e4, by rw [setManyA_size]; exact e7, hb, e8⟩⟩
  have hst := run_storeCells_cells (P := P) g.1 (g.2.2 + o) vs 0 w (fun j hj => ?_) (fun j hj => ?_) h1
  · simpa using hst
  · have hv : l[o + j]? = some (l[o + j]'(by omega)) := List.getElem?_eq_getElem (by omega)
    rw [Nat.add_zero, Nat.add_assoc, cell_row e1 e2 hb hv]; rfl
  · have hlt : g.2.2 + o + j < g.2.1 := by rw [← e7, ← Array.length_toList, e2, List.length_append, List.length_append]; omega
    have hno := okF_not (i := g.2.2 + o + j) hf e8 hlt (by omega)
    unfold World.frozen?
    rw [e1]
    simp only [Nat.add_zero, Bool.and_eq_false_iff, decide_eq_false_iff_not]
    by_cases h1 : m.1 ≤ g.2.2 + o + j
    · exact .inr fun h2 => hno ⟨h1, h2⟩
    · exact .inl h1
end
end Go.Proofs.YtknjkljigmepjaaGreatDoor.Clo
end
section
namespace Go.Proofs.YtknjkljigmepjaaGreatDoor.Clo
open Go.RowKit
set_option linter.unusedVariables false
set_option linter.unusedSimpArgs false
variable [Tabs]
inductive HP where | mk (m : Mem) (nx : Id)
def HP.m : HP → Mem | .mk m _ => m
def HP.nx : HP → Id | .mk _ n => n
abbrev R := Option (AV × HP)
abbrev Env := List AV
abbrev Tr := T4 AV
abbrev KV := AV → HP → R
abbrev KP := AV → HP → R
inductive Ex where | normal | exit (i : Nat) | ret | pan (v : AV)
abbrev KC := Ex → Tr → HP → R
structure Ys where
  s : List Site
  on : Bool
  f : Id → AV → HP → KV → R
structure HdB where
  c : Ys → FuncId → AV → HP → KV → KP → R
  d : Ys → FuncId → AV → AV → HP → KV → R
  e : FuncId → Bool
structure Hd where
  b : HdB
  y : Ys
noncomputable def Hd.c (h : Hd) : FuncId → AV → HP → KV → KP → R := h.b.c h.y
noncomputable def Hd.d (h : Hd) : FuncId → AV → AV → HP → KV → R := h.b.d h.y
inductive GV where | mk (f : Env → Tr → AV)
inductive OM where | mk (f : Hd → Env → Tr → HP → KV → KP → R)
inductive RM where | mk (f : Hd → Env → Tr → HP → KC → R)
inductive CM where | mk (f : Hd → Tr → HP → KC → R)
inductive FM where | mk (f : Hd → AV → HP → KV → KP → R)
noncomputable def GV.run (g : GV) : Env → Tr → AV := GV.rec (fun f => f) g
noncomputable def OM.run (g : OM) : Hd → Env → Tr → HP → KV → KP → R := OM.rec (fun f => f) g
noncomputable def RM.run (g : RM) : Hd → Env → Tr → HP → KC → R := RM.rec (fun f => f) g
noncomputable def CM.run (g : CM) : Hd → Tr → HP → KC → R := CM.rec (fun f => f) g
noncomputable def FM.run (g : FM) : Hd → AV → HP → KV → KP → R := FM.rec (fun f => f) g
noncomputable def AV.on_ifc (a : AV) (k : TypeId → AV → R) : R := AV.rec (motive := fun _ => R) none none (fun _ _ _ _ => none) none (fun x0 x1 _ => k x0 x1) none (fun _ _ _ _ _ => none) none (fun _ => none) (fun _ _ => none) (fun _ _ => none) none (fun _ _ _ _ => none) (fun _ _ _ _ => none) (fun _ _ _ => none) (fun _ => none) (fun _ => none) none (fun _ _ => none) (fun _ => none) (fun _ => none) (fun _ _ => none) a
theorem AV.on_ifc_some {a : AV} {k : TypeId → AV → R} {r : AV × HP} (h : a.on_ifc k = some r) : ∃ x0 x1, a = .ifc x0 x1 ∧ k x0 x1 = some r := by
  cases a <;> first | exact ⟨_, _, rfl, h⟩ | cases h
noncomputable def AV.on_fn (a : AV) (k : Fn → AV → AV → R) : R := AV.rec (motive := fun _ => R) none none (fun _ _ _ _ => none) none (fun _ _ _ => none) none (fun x0 x1 x2 _ _ => k x0 x1 x2) none (fun _ => none) (fun _ _ => none) (fun _ _ => none) none (fun _ _ _ _ => none) (fun _ _ _ _ => none) (fun _ _ _ => none) (fun _ => none) (fun _ => none) none (fun _ _ => none) (fun _ => none) (fun _ => none) (fun _ _ => none) a
theorem AV.on_fn_some {a : AV} {k : Fn → AV → AV → R} {r : AV × HP} (h : a.on_fn k = some r) : ∃ x0 x1 x2, a = .fn x0 x1 x2 ∧ k x0 x1 x2 = some r := by
  cases a <;> first | exact ⟨_, _, _, rfl, h⟩ | cases h
noncomputable def AV.on_mp (a : AV) (k : Id → R) : R := AV.rec (motive := fun _ => R) none none (fun _ _ _ _ => none) none (fun _ _ _ => none) none (fun _ _ _ _ _ => none) none k (fun _ _ => none) (fun _ _ => none) none (fun _ _ _ _ => none) (fun _ _ _ _ => none) (fun _ _ _ => none) (fun _ => none) (fun _ => none) none (fun _ _ => none) (fun _ => none) (fun _ => none) (fun _ _ => none) a
theorem AV.on_mp_some {a : AV} {k : Id → R} {r : AV × HP} (h : a.on_mp k = some r) : ∃ x0, a = .mp x0 ∧ k x0 = some r := by
  cases a <;> first | exact ⟨_, rfl, h⟩ | cases h
noncomputable def AV.on_tu (a : AV) (k : AV → R) : R := AV.rec (motive := fun _ => R) none none (fun _ _ _ _ => none) none (fun _ _ _ => none) none (fun _ _ _ _ _ => none) none (fun _ => none) (fun x0 _ => k x0) (fun _ _ => none) none (fun _ _ _ _ => none) (fun _ _ _ _ => none) (fun _ _ _ => none) (fun _ => none) (fun _ => none) none (fun _ _ => none) (fun _ => none) (fun _ => none) (fun _ _ => none) a
theorem AV.on_tu_some {a : AV} {k : AV → R} {r : AV × HP} (h : a.on_tu k = some r) : ∃ x0, a = .tu x0 ∧ k x0 = some r := by
  cases a <;> first | exact ⟨_, rfl, h⟩ | cases h
noncomputable def AV.on_ag (a : AV) (k : AV → R) : R := AV.rec (motive := fun _ => R) none none (fun _ _ _ _ => none) none (fun _ _ _ => none) none (fun _ _ _ _ _ => none) none (fun _ => none) (fun _ _ => none) (fun x0 _ => k x0) none (fun _ _ _ _ => none) (fun _ _ _ _ => none) (fun _ _ _ => none) (fun _ => none) (fun _ => none) none (fun _ _ => none) (fun _ => none) (fun _ => none) (fun _ _ => none) a
theorem AV.on_ag_some {a : AV} {k : AV → R} {r : AV × HP} (h : a.on_ag k = some r) : ∃ x0, a = .ag x0 ∧ k x0 = some r := by
  cases a <;> first | exact ⟨_, rfl, h⟩ | cases h
noncomputable def AV.on_ch (a : AV) (k : Id → R) : R := AV.rec (motive := fun _ => R) none none (fun _ _ _ _ => none) none (fun _ _ _ => none) none (fun _ _ _ _ _ => none) none (fun _ => none) (fun _ _ => none) (fun _ _ => none) none (fun _ _ _ _ => none) (fun _ _ _ _ => none) (fun _ _ _ => none) (fun _ => none) k none (fun _ _ => none) (fun _ => none) (fun _ => none) (fun _ _ => none) a
theorem AV.on_ch_some {a : AV} {k : Id → R} {r : AV × HP} (h : a.on_ch k = some r) : ∃ x0, a = .ch x0 ∧ k x0 = some r := by
  cases a <;> first | exact ⟨_, rfl, h⟩ | cases h
noncomputable def AV.on_p (a : AV) (k : Id → Nat → R) : R := AV.rec (motive := fun _ => R) none none (fun _ _ _ _ => none) none (fun _ _ _ => none) none (fun _ _ _ _ _ => none) none (fun _ => none) (fun _ _ => none) (fun _ _ => none) none (fun _ _ _ _ => none) (fun _ _ _ _ => none) (fun _ _ _ => none) (fun _ => none) (fun _ => none) none k (fun _ => none) (fun _ => none) (fun _ _ => none) a
theorem AV.on_p_some {a : AV} {k : Id → Nat → R} {r : AV × HP} (h : a.on_p k = some r) : ∃ x0 x1, a = .p x0 x1 ∧ k x0 x1 = some r := by
  cases a <;> first | exact ⟨_, _, rfl, h⟩ | cases h
noncomputable def AV.on_s (a : AV) (k : List Nat → R) : R := AV.rec (motive := fun _ => R) none none (fun _ _ _ _ => none) none (fun _ _ _ => none) none (fun _ _ _ _ _ => none) none (fun _ => none) (fun _ _ => none) (fun _ _ => none) none (fun _ _ _ _ => none) (fun _ _ _ _ => none) (fun _ _ _ => none) (fun _ => none) (fun _ => none) none (fun _ _ => none) k (fun _ => none) (fun _ _ => none) a
theorem AV.on_s_some {a : AV} {k : List Nat → R} {r : AV × HP} (h : a.on_s k = some r) : ∃ x0, a = .s x0 ∧ k x0 = some r := by
  cases a <;> first | exact ⟨_, rfl, h⟩ | cases h
noncomputable def AV.on_b (a : AV) (k : Bool → R) : R := AV.rec (motive := fun _ => R) none none (fun _ _ _ _ => none) none (fun _ _ _ => none) none (fun _ _ _ _ _ => none) none (fun _ => none) (fun _ _ => none) (fun _ _ => none) none (fun _ _ _ _ => none) (fun _ _ _ _ => none) (fun _ _ _ => none) (fun _ => none) (fun _ => none) none (fun _ _ => none) (fun _ => none) k (fun _ _ => none) a
theorem AV.on_b_some {a : AV} {k : Bool → R} {r : AV × HP} (h : a.on_b k = some r) : ∃ x0, a = .b x0 ∧ k x0 = some r := by
  cases a <;> first | exact ⟨_, rfl, h⟩ | cases h
noncomputable def AV.on_i (a : AV) (k : IntKind → Int → R) : R := AV.rec (motive := fun _ => R) none none (fun _ _ _ _ => none) none (fun _ _ _ => none) none (fun _ _ _ _ _ => none) none (fun _ => none) (fun _ _ => none) (fun _ _ => none) none (fun _ _ _ _ => none) (fun _ _ _ _ => none) (fun _ _ _ => none) (fun _ => none) (fun _ => none) none (fun _ _ => none) (fun _ => none) (fun _ => none) k a
theorem AV.on_i_some {a : AV} {k : IntKind → Int → R} {r : AV × HP} (h : a.on_i k = some r) : ∃ x0 x1, a = .i x0 x1 ∧ k x0 x1 = some r := by
  cases a <;> first | exact ⟨_, _, rfl, h⟩ | cases h
noncomputable def getT (p : Id) : Tr → AV :=
  List.rec (motive := fun _ => Tr → AV) (fun t => T4.rec (motive := fun _ => AV) .u (fun v => v) (fun _ _ _ _ _ _ _ _ => .u) t)
    (fun q _ ih t => T4.rec (motive := fun _ => AV) .u (fun _ => .u) (fun a b c d _ _ _ _ => ih (D4.rec a b c d q)) t) p
theorem getT_get : ∀ (p : Id) (t : Tr), getT p t = (t.get p).getD .u
  | [], t => by cases t <;> rfl
  | q :: p, t => by cases t <;> first | rfl | exact getT_get p _
noncomputable def envAt (n : Nat) : Env → AV :=
  Nat.rec (motive := fun _ => Env → AV) (fun e => List.rec (motive := fun _ => AV) .u (fun v _ _ => v) e) (fun _ ih e => List.rec (motive := fun _ => AV) .u (fun _ r _ => ih r) e) n
def idx (d : Nat) : List (Option Nat) → Option Nat
  | [] => none
  | x :: r => if x = some d then some 0 else (idx d r).map (· + 1)
def DfR (φ : Id → Option Plc) : AV → List Deferred → Prop
  | .u, l => l = []
  | .cons (.cons (.fn (.func f) first cap) args) r, l => ∃ (us ys ars : Array Value) (ds : List Deferred), l = { target := .fn (.func f) ys, args := us ++ ars } :: ds ∧ VL φ first us.toList ∧ VL φ cap ys.toList ∧ VL φ args ars.toList ∧ DfR φ r ds
  | .cons (.mp q) r, l => ∃ (g : Plc) (ds : List Deferred), φ q = some g ∧ l = { target := .collected g.1, args := #[] } :: ds ∧ DfR φ r ds
  | _, _ => False
theorem DfR.more {φ ψ : Id → Option Plc} (k : More φ ψ) : ∀ {x : AV} {l : List Deferred}, DfR φ x l → DfR ψ x l
  | .u, l, h => h
  | .cons (.cons (.fn (.func f) first cap) args) r, l, ⟨us, ys, ars, ds, e, h1, h2, h3, h4⟩ => ⟨us, ys, ars, ds, e, h1.more k, h2.more k, h3.more k, DfR.more k h4⟩
  | .cons (.mp q) r, l, ⟨g, ds, h1, e, h4⟩ => ⟨g, ds, k _ _ h1, e, DfR.more k h4⟩
structure FR (φ : Id → Option Plc) (dt n : Nat) (lo : Nat → Bool) (t : Tr) (a : Act) : Prop where
  sz : a.tmps.size = n
  cap : n < 4 ^ dt
  at' : ∀ d, d < n → VR φ (getT (path dt d) t) (a.tmps.getD d undef)
  lo : ∀ d, d < n → lo d = true → getT (path dt d) t = .u
  df : DfR φ (getT (path dt n) t) a.defers
def EnvR (φ : Id → Option Plc) (ds : List (Option Nat)) (e : Env) (tmps : Array Value) : Prop := ∀ d j, idx d ds = some j → VR φ (envAt j e) (tmps.getD d undef)
def Glo (G : Nat) (φ : Id → Option Plc) : Prop := ∀ g, g < G → ∃ K, φ (path DB g) = some (g, K, 0)
theorem Glo.more {G : Nat} {φ ψ : Id → Option Plc} (h : Glo G φ) (k : More φ ψ) : Glo G ψ := fun g hg => let ⟨K, e⟩ := h g hg; ⟨K, k _ _ e⟩
theorem FR.more {φ ψ : Id → Option Plc} {dt n : Nat} {lo : Nat → Bool} {t : Tr} {a : Act} (h : FR φ dt n lo t a) (k : More φ ψ) : FR ψ dt n lo t a := ⟨h.sz, h.cap, fun d hd => (h.at' d hd).more k, h.lo, h.df.more k⟩
theorem EnvR.more {φ ψ : Id → Option Plc} {ds : List (Option Nat)} {e : Env} {tmps : Array Value} (h : EnvR φ ds e tmps) (k : More φ ψ) : EnvR ψ ds e tmps := fun d j hj => (h d j hj).more k
theorem EnvR.nil (φ : Id → Option Plc) (e : Env) (tmps : Array Value) : EnvR φ [] e tmps := fun d j hj => by cases hj
def ofCell : Value → AV
  | .bool b => .b b
  | .int k n => .i k n
  | .string s => .s (s.data.toList.map UInt8.toNat)
  | .pointer none => .pn
  | .slice none 0 0 => .sn
  | .map none => .mn
  | .nilFunc => .fnil
  | .nilIface => .inil
  | _ => .u
def ofList : List Value → AV
  | [] => .nil
  | v :: r => .cons (ofCell v) (ofList r)
def ofConst : Value → AV
  | .agg cs => .ag (ofList cs.toList)
  | .tuple cs => .tu (ofList cs.toList)
  | v => ofCell v
theorem bytes_back (s : ByteArray) : bytesOf (s.data.toList.map UInt8.toNat) = s := by
  unfold bytesOf
  rw [List.map_map, show UInt8.ofNat ∘ UInt8.toNat = id from funext fun x => UInt8.ofNat_toNat, List.map_id]
theorem ofCell_ok (φ : Id → Option Plc) (v : Value) : VR φ (ofCell v) v := by
  unfold ofCell
  split <;> first | exact trivial | exact rfl | exact ⟨by rw [bytes_back], fun x hx => by obtain ⟨y, _, rfl⟩ := List.mem_map.1 hx; exact y.toNat_lt⟩
theorem ofList_ok (φ : Id → Option Plc) : ∀ l : List Value, VL φ (ofList l) l
  | [] => rfl
  | v :: r => ⟨v, r, rfl, ofCell_ok φ v, ofList_ok φ r⟩
theorem ofConst_ok (φ : Id → Option Plc) (v : Value) : VR φ (ofConst v) v := by
  unfold ofConst
  split
  · exact ⟨_, rfl, ofList_ok φ _⟩
  · exact ⟨_, rfl, ofList_ok φ _⟩
  · exact ofCell_ok φ _
section
variable (G dt n : Nat) (lo : Nat → Bool)
noncomputable def opd (ds : List (Option Nat)) : Operand → GV
  | .tmp d => match idx d ds with
    | some j => .mk fun e _ => envAt j e
    | none => if d < n then .mk fun _ t => getT (path dt d) t else .mk fun _ _ => .u
  | .const v => .mk fun _ _ => ofConst v
  | .global g => if g < G then .mk fun _ _ => .p (path DB g) 0 else .mk fun _ _ => .u
  | .func f => .mk fun _ _ => .fn (.func f) .nil .nil
variable {G dt n lo}
theorem opd_ok {φ : Id → Option Plc} {ds : List (Option Nat)} {e : Env} {t : Tr} {a : Act} (hg : Glo G φ) (hf : FR φ dt n lo t a) (he : EnvR φ ds e a.tmps) (x : Operand) : VR φ ((opd G dt n ds x).run e t) (a.eval x) := by
  cases x with
  | tmp d =>
    cases hj : idx d ds with
    | some j =>
      have h1 : opd G dt n ds (.tmp d) = .mk fun e _ => envAt j e := by simp only [opd, hj]
      rw [h1]
      exact he d j hj
    | none =>
      by_cases hd : d < n
      · have h1 : opd G dt n ds (.tmp d) = .mk fun _ t => getT (path dt d) t := by simp only [opd, hj, hd, if_true]
        rw [h1]
        exact hf.at' d hd
      · have h1 : opd G dt n ds (.tmp d) = .mk fun _ _ => .u := by simp only [opd, hj, hd, if_false]
        rw [h1]
        exact trivial
  | const v => exact ofConst_ok φ v
  | func f => exact ⟨#[], #[], rfl, rfl, rfl⟩
  | _ =>
    rename_i g
    by_cases h : g < G
    · have h1 : opd G dt n ds (.global g) = .mk fun _ _ => .p (path DB g) 0 := by simp only [opd, h, if_true]
      rw [h1]
      obtain ⟨K, e⟩ := hg g h
      exact ⟨(g, K, 0), e, rfl⟩
    · have h1 : opd G dt n ds (.global g) = .mk fun _ _ => .u := by simp only [opd, h, if_false]
      rw [h1]
      exact trivial
end
section
variable {φ : Id → Option Plc} {dt n : Nat} {lo : Nat → Bool} {t : Tr} {a : Act} {ds : List (Option Nat)} {e : Env} {v : AV} {v' : Value}
theorem getD_put_same {d : Nat} (h : d < a.tmps.size) : (a.put (some d) v').tmps.getD d undef = v' := by
  simp [Act.put, Array.getD_eq_getD_getElem?, Array.getElem?_setIfInBounds, h]
theorem getD_put_other {d k : Nat} (h : d ≠ k) : (a.put (some d) v').tmps.getD k undef = a.tmps.getD k undef := by
  simp [Act.put, Array.getD_eq_getD_getElem?, Array.getElem?_setIfInBounds, h]
theorem FR.put_none (hf : FR φ dt n lo t a) : FR φ dt n lo t (a.put none v') := hf
theorem FR.put_lo (hf : FR φ dt n lo t a) {d : Nat} (hd : d < n) (hl : lo d = true) : FR φ dt n lo t (a.put (some d) v') := by
  refine ⟨by simpa [Act.put] using hf.sz, hf.cap, fun k hk => ?_, hf.lo, hf.df⟩
  by_cases h : d = k
  · subst h; rw [hf.lo d hk hl]; exact trivial
  · rw [getD_put_other h]; exact hf.at' k hk
theorem FR.put (hf : FR φ dt n lo t a) {d : Nat} (hd : d < n) (hl : lo d = false) (hv : VR φ v v') : FR φ dt n lo (t.set (path dt d) v) (a.put (some d) v') := by
  have ne : ∀ k, k ≤ n → d ≠ k → path dt k ≠ path dt d := fun k hk h e => h (path_inj dt k d (Nat.lt_of_le_of_lt hk hf.cap) (Nat.lt_trans hd hf.cap) e).symm
  refine ⟨by simpa [Act.put] using hf.sz, hf.cap, fun k hk => ?_, fun k hk hl' => ?_, ?_⟩
  · by_cases h : d = k
    · subst h; rw [getT_get, T4.get_set_same, getD_put_same (by rw [hf.sz]; exact hd)]; exact hv
    · have hp := ne k (Nat.le_of_lt hk) h
      rw [getT_get, T4.get_set_other v _ _ _ (by rw [path_len, path_len]) hp, getD_put_other h, ← getT_get]
      exact hf.at' k hk
  · have h : d ≠ k := fun e => by subst e; rw [hl] at hl'; cases hl'
    have hp := ne k (Nat.le_of_lt hk) h
    rw [getT_get, T4.get_set_other v _ _ _ (by rw [path_len, path_len]) hp, ← getT_get]
    exact hf.lo k hk hl'
  · have hp := ne n (Nat.le_refl n) (Nat.ne_of_lt hd)
    rw [getT_get, T4.get_set_other v _ _ _ (by rw [path_len, path_len]) hp, ← getT_get]
    exact hf.df
theorem EnvR.put (he : EnvR φ ds e a.tmps) (hv : VR φ v v') (dst : Option Nat) (hd : ∀ d, dst = some d → d < a.tmps.size) : EnvR φ (dst :: ds) (v :: e) (a.put dst v').tmps := fun d j hj => by
  unfold idx at hj
  split at hj
  · rename_i h
    subst h
    simp only [Option.some.injEq] at hj
    subst hj
    rw [getD_put_same (hd d rfl)]
    exact hv
  · rename_i h
    obtain ⟨j', hj', rfl⟩ := Option.map_eq_some_iff.1 hj
    have := he d j' hj'
    cases dst with
    | none => exact this
    | some d' => rw [getD_put_other (fun e => h (by rw [e]))]; exact this
end
abbrev WH (φ : Id → Option Plc) {sts : List Site} (B : Bse sts) (hp : HP) (w : World) : Prop := WR φ B hp.m hp.nx w
abbrev RH (φ : Id → Option Plc) (hp : HP) (w : World) : Prop := RW φ hp.m w
abbrev StH (φ : Id → Option Plc) (hp : HP) (w : World) (ψ : Id → Option Plc) (hp' : HP) (w' : World) : Prop := Step φ hp.m hp.nx w ψ hp'.m hp'.nx w'
def one (v : Value) : List PanicEntry := [{ v, recovered := false }]
def CallOk (P : Program) (f : FuncId) (ars : Array Value) (w : World) (Q : Value → World → Prop) : Prop :=
  ((callFunc f ars).run P w = .ok (.enter f ars) w ∧ Calls P f ars w fun e w' => ∃ v, e = .returned v ∧ Q v w') ∨ ∃ v w', (callFunc f ars).run P w = .ok (.value v) w' ∧ Q v w'
def CallPan (P : Program) (f : FuncId) (ars : Array Value) (w : World) (Q : Value → World → Prop) : Prop :=
  (callFunc f ars).run P w = .ok (.enter f ars) w ∧ Calls P f ars w fun e w' => ∃ v, e = .panicked (one v) ∧ Q v w'
def Aft (φ : Id → Option Plc) {sts : List Site} (B : Bse sts) (hp : HP) (w : World) (v : AV) (hp' : HP) (v' : Value) (w' : World) : Prop := ∃ ψ, VR ψ v v' ∧ StH φ hp w ψ hp' w' ∧ WH ψ B hp' w'
def ModeR (φ : Id → Option Plc) : AV → FrameMode → Prop
  | .nil, u => u = .returning
  | .cons v .nil, u => ∃ v', u = .panicking (one v') ∧ VR φ v v'
  | _, _ => False
def HdOkC (P : Program) (G : Nat) (hd : Hd) : Prop := ∀ f args hp k kp r, hd.c f args hp k kp = some r →
  (∃ v hp', k v hp' = some r ∧ ∀ φ (B : Bse hd.y.s) w (ars : Array Value), Glo G φ → WH φ B hp w → VL φ args ars.toList → CallOk P f ars w (Aft φ B hp w v hp')) ∨
  (∃ v hp', kp v hp' = some r ∧ ∀ φ (B : Bse hd.y.s) w (ars : Array Value), Glo G φ → WH φ B hp w → VL φ args ars.toList → CallPan P f ars w (Aft φ B hp w v hp'))
def HdOkD (P : Program) (G : Nat) (hd : Hd) : Prop := ∀ f args md hp k r, hd.d f args md hp k = some r → ∃ md' hp', k md' hp' = some r ∧ ∀ φ (B : Bse hd.y.s) w (ars : Array Value) u, Glo G φ → WH φ B hp w → VL φ args ars.toList → ModeR φ md u →
  (callFunc f ars).run P w = .ok (.enter f ars) w ∧ CallsD P f ars u w fun e u' w' => (∃ v, e = .returned v) ∧ ∃ ψ, ModeR ψ md' (settle u') ∧ StH φ hp w ψ hp' w' ∧ WH ψ B hp' w'
def RoundOk (P : Program) (l : Nat) (ars : Array Value) (w : World) (Q : Value → World → Prop) : Prop :=
  ∃ f tmps as' bd, (Instr.yield l ars).run P w = .ok (.round l f tmps as' bd) w ∧ RoundIn Fence.wide 0 P l f tmps as' bd w fun e w' => ∃ v, e = .returned v ∧ Q v w'
def YOk (P : Program) (G : Nat) (y : Ys) : Prop := ∀ r args hp k res, y.f r args hp k = some res → ∃ v hp', k v hp' = some res ∧ ∀ φ (B : Bse y.s) w (ars : Array Value) g, Glo G φ → WH φ B hp w → VL φ args ars.toList → φ r = some g → RoundOk P g.1 ars w (Aft φ B hp w v hp')
def HdOkB (P : Program) (G : Nat) (b : HdB) : Prop := (∀ y, YOk P G y → HdOkC P G ⟨b, y⟩ ∧ HdOkD P G ⟨b, y⟩) ∧ ∀ f, b.e f = true → ∀ (ars : Array Value) w, (callFunc f ars).run P w = .ok (.enter f ars) w
def HdOk (P : Program) (G : Nat) (hd : Hd) : Prop := YOk P G hd.y ∧ HdOkB P G hd.b
noncomputable def Hd.off (hd : Hd) : Hd := ⟨hd.b, ⟨hd.y.s, false, hd.y.f⟩⟩
theorem HdOk.off {P : Program} {G : Nat} {hd : Hd} (h : HdOk P G hd) : HdOk P G hd.off := h
theorem HdOk.c {P : Program} {G : Nat} {hd : Hd} (h : HdOk P G hd) : HdOkC P G hd := (h.2.1 hd.y h.1).1
theorem HdOk.d {P : Program} {G : Nat} {hd : Hd} (h : HdOk P G hd) : HdOkD P G hd := (h.2.1 hd.y h.1).2
def OpsR (G dt n : Nat) (ds : List (Option Nat)) (φ : Id → Option Plc) (e : Env) (t : Tr) (ev : Operand → Value) (op : Op) : Prop := ∀ x ∈ op.operands, VR φ ((opd G dt n ds x).run e t) (ev x)
def noDefer (o : Oper) : Bool := match o.op with
  | .defer _ => false
  | _ => true
def YW (P : Program) (o : Oper) (a : Act) (w : World) (K : Act → World → Prop) : Prop :=
  ∃ l f tmps as' bd, (execOp a.eval o).run P w = .ok (.round l f tmps as' bd) w ∧ noDefer o = true ∧ RoundIn Fence.wide 0 P l f tmps as' bd w fun e w' => ∃ v, e = .returned v ∧ K (a.put o.dst v) w'
def OW (on : Bool) (P : Program) (o : Oper) (a : Act) (w : World) (K : Act → World → Prop) (Q : Exit → Act → World → Prop) : Prop := o.wp P a w K Q ∨ (on = true ∧ YW P o a w K)
def OpOk (P : Program) (G dt n : Nat) (ds : List (Option Nat)) (o : Oper) (m : OM) : Prop :=
  ∀ hd, HdOk P G hd → ∀ e t hp k kp r, m.run hd e t hp k kp = some r →
    (∃ v hp', k v hp' = some r ∧ ∀ φ (B : Bse hd.y.s) a w, Glo G φ → OpsR G dt n ds φ e t a.eval o.op → WH φ B hp w → ∀ (K : Act → World → Prop) Q,
      (∀ v' w', Aft φ B hp w v hp' v' w' → K (a.put o.dst v') w') → OW hd.y.on P o a w K Q) ∨
    (∃ v hp', kp v hp' = some r ∧ ∀ φ (B : Bse hd.y.s) a w, Glo G φ → OpsR G dt n ds φ e t a.eval o.op → WH φ B hp w → ∀ (K : Act → World → Prop) Q,
      (∀ v' w', Aft φ B hp w v hp' v' w' → Q (.panic (one v')) a w') → OW hd.y.on P o a w K Q)
abbrev VM := Env → Tr → HP → KV → R
def CW (P : Program) (o : Oper) (a : Act) (w : World) (K : Act → World → Prop) : Prop :=
  ∃ cs bl sh v w', (execOp a.eval o).run P w = .ok (.comm cs bl sh) w ∧ noDefer o = true ∧
    (∀ (fr : Frame) (callers : List Frame) w0 es, stepG P true { frame := fr, callers, status := .running, dying := none } w0 = .comm { frame := fr, callers, status := .running, dying := none } cs bl sh w es → step P (lone fr callers w0) = .next (lone (fr.finish v) callers w')) ∧ K (a.put o.dst v) w'
def OWC (cm on : Bool) (P : Program) (o : Oper) (a : Act) (w : World) (K : Act → World → Prop) (Q : Exit → Act → World → Prop) : Prop := OW on P o a w K Q ∨ (cm = true ∧ CW P o a w K)
def ComOk (P : Program) (G dt n : Nat) (ds : List (Option Nat)) (o : Oper) (F : VM) : Prop :=
  ∀ e t hp k r, F e t hp k = some r → ∃ v hp', k v hp' = some r ∧ ∀ {sts : List Site} φ (B : Bse sts) (a : Act) w, Glo G φ → OpsR G dt n ds φ e t a.eval o.op → WH φ B hp w →
    ∀ K : Act → World → Prop, (∀ v' w', Aft φ B hp w v hp' v' w' → K (a.put o.dst v') w') → CW P o a w K
abbrev CmM := List (Option Nat) → Oper → Option VM
def OpOkC (cm : Bool) (P : Program) (G dt n : Nat) (ds : List (Option Nat)) (o : Oper) (m : OM) : Prop :=
  ∀ hd, HdOk P G hd → ∀ e t hp k kp r, m.run hd e t hp k kp = some r →
    (∃ v hp', k v hp' = some r ∧ ∀ φ (B : Bse hd.y.s) a w, Glo G φ → OpsR G dt n ds φ e t a.eval o.op → WH φ B hp w → ∀ (K : Act → World → Prop) Q,
      (∀ v' w', Aft φ B hp w v hp' v' w' → K (a.put o.dst v') w') → OWC cm hd.y.on P o a w K Q) ∨
    (∃ v hp', kp v hp' = some r ∧ ∀ φ (B : Bse hd.y.s) a w, Glo G φ → OpsR G dt n ds φ e t a.eval o.op → WH φ B hp w → ∀ (K : Act → World → Prop) Q,
      (∀ v' w', Aft φ B hp w v hp' v' w' → Q (.panic (one v')) a w') → OWC cm hd.y.on P o a w K Q)
theorem OpOk.c {P : Program} {G dt n : Nat} {ds : List (Option Nat)} {o : Oper} {m : OM} (h : OpOk P G dt n ds o m) (cm : Bool) : OpOkC cm P G dt n ds o m := fun hd hok e t hp k kp r hr =>
  match h hd hok e t hp k kp r hr with
  | .inl ⟨v, hp', h1, h2⟩ => .inl ⟨v, hp', h1, fun φ B a w g1 g2 g3 K Q hK => .inl (h2 φ B a w g1 g2 g3 K Q hK)⟩
  | .inr ⟨v, hp', h1, h2⟩ => .inr ⟨v, hp', h1, fun φ B a w g1 g2 g3 K Q hK => .inl (h2 φ B a w g1 g2 g3 K Q hK)⟩
theorem ComOk.c {P : Program} {G dt n : Nat} {ds : List (Option Nat)} {o : Oper} {F : VM} (h : ComOk P G dt n ds o F) : OpOkC true P G dt n ds o (.mk fun _ e t hp k _ => F e t hp k) := fun hd hok e t hp k kp r hr =>
  let ⟨v, hp', h1, h2⟩ := h e t hp k r hr
  .inl ⟨v, hp', h1, fun φ B a w g1 g2 g3 K Q hK => .inr ⟨rfl, h2 φ B a w g1 g2 g3 K hK⟩⟩
def StillOk (P : Program) (G dt n : Nat) (ds : List (Option Nat)) (o : Oper) (F : VM) : Prop :=
  ∀ e t hp k r, F e t hp k = some r → ∃ v, k v hp = some r ∧ ∀ φ (a : Act) w, Glo G φ → OpsR G dt n ds φ e t a.eval o.op → RH φ hp w →
    ∃ v', (execOp a.eval o).run P w = .ok (.value v') w ∧ VR φ v v'
def PureOk (P : Program) (G dt n : Nat) (ds : List (Option Nat)) (o : Oper) (F : VM) : Prop :=
  ∀ e t hp k r, F e t hp k = some r → ∃ v, k v hp = some r ∧ ∀ φ (a : Act) w, OpsR G dt n ds φ e t a.eval o.op → ∃ v', (execOp a.eval o).run P w = .ok (.value v') w ∧ VR φ v v'
def MakeOk (P : Program) (G dt n : Nat) (ds : List (Option Nat)) (o : Oper) (F : VM) : Prop :=
  ∀ e t hp k r, F e t hp k = some r → ∃ m nx v x, hp = .mk m nx ∧ last nx = false ∧ x.ro = false ∧ k v (.mk (m.set nx x) (inc nx)) = some r ∧ ∀ φ (a : Act) w, Glo G φ → OpsR G dt n ds φ e t a.eval o.op →
    ∃ v' ob K w', (execOp a.eval o).run P w = .ok (.value v') w' ∧ NewW w ob w' ∧ x.says φ K ob ∧ ∀ ψ, More φ ψ → ψ nx = some (w.heap.size, K) → VR ψ v v'
def ValOk (P : Program) (G dt n : Nat) (ds : List (Option Nat)) (o : Oper) (F : VM) : Prop :=
  ∀ e t hp k r, F e t hp k = some r → ∃ v hp', k v hp' = some r ∧ ∀ {sts : List Site} φ (B : Bse sts) (a : Act) w, Glo G φ → OpsR G dt n ds φ e t a.eval o.op → WH φ B hp w →
    ∃ ψ v' w', ((execOp a.eval o).run P w = .ok (.value v') w' ∨ ((execOp a.eval o).run P w = .ok .skip w' ∧ v' = undef)) ∧ VR ψ v v' ∧ StH φ hp w ψ hp' w' ∧ WH ψ B hp' w'
inductive Kd where | pure | still | make | eff
def OmOk (P : Program) (G dt n : Nat) (ds : List (Option Nat)) (o : Oper) : Kd × OM → Prop
  | (.pure, m) => ∃ F, m = .mk (fun _ e t hp k _ => F e t hp k) ∧ PureOk P G dt n ds o F
  | (.still, m) => ∃ F, m = .mk (fun _ e t hp k _ => F e t hp k) ∧ StillOk P G dt n ds o F
  | (.make, m) => ∃ F, m = .mk (fun _ e t hp k _ => F e t hp k) ∧ MakeOk P G dt n ds o F
  | (.eff, m) => OpOk P G dt n ds o m
section
variable {P : Program} {G dt n : Nat} {ds : List (Option Nat)} {o : Oper} {F : VM}
theorem ValOk.op (h : ValOk P G dt n ds o F) : OpOk P G dt n ds o (.mk fun _ e t hp k _ => F e t hp k) := by
  intro hd hok e t hp k kp r hr
  obtain ⟨v, hp', h1, h2⟩ := h e t hp k r hr
  refine .inl ⟨v, hp', h1, fun φ B a w g1 g2 g3 K Q hK => ?_⟩
  obtain ⟨ψ, v', w', h3, h4, h5, h6⟩ := h2 φ B a w g1 g2 g3
  refine .inl ?_
  unfold Oper.wp
  rcases h3 with h3 | ⟨h3, rfl⟩
  · rw [h3]; exact hK v' w' ⟨ψ, h4, h5, h6⟩
  · rw [h3]; exact hK undef w' ⟨ψ, h4, h5, h6⟩
theorem StillOk.val (h : StillOk P G dt n ds o F) : ValOk P G dt n ds o F := by
  intro e t hp k r hr
  obtain ⟨v, h1, h2⟩ := h e t hp k r hr
  refine ⟨v, hp, h1, fun φ B a w g1 g2 g3 => ?_⟩
  obtain ⟨v', h3, h4⟩ := h2 φ a w g1 g2 g3.rw
  exact ⟨φ, v', w, .inl h3, h4, Step.refl, g3⟩
theorem PureOk.still (h : PureOk P G dt n ds o F) : StillOk P G dt n ds o F := by
  intro e t hp k r hr
  obtain ⟨v, h1, h2⟩ := h e t hp k r hr
  exact ⟨v, h1, fun φ a w _ g2 _ => h2 φ a w g2⟩
theorem PureOk.pure (h : ∀ e t hp k r, F e t hp k = some r → ∃ v, k v hp = some r ∧ ∀ φ (a : Act) w, OpsR G dt n ds φ e t a.eval o.op → ∃ v', (execOp a.eval o).run P w = .ok (.value v') w ∧ VR φ v v') : PureOk P G dt n ds o F := h
theorem MakeOk.val (h : MakeOk P G dt n ds o F) : ValOk P G dt n ds o F := by
  intro e t hp k r hr
  obtain ⟨m, nx, v, x, rfl, hl, _, h1, h2⟩ := h e t hp k r hr
  refine ⟨v, _, h1, fun φ B a w g1 g2 g3 => ?_⟩
  obtain ⟨v', ob, K, w', h3, hn, h4, h5⟩ := h2 φ a w g1 g2
  obtain ⟨h6, h7⟩ := WR.new g3 hl h4 hn
  exact ⟨_, v', _, .inl h3, h5 _ h7.more (ext_same φ nx _), h7, h6⟩
theorem OmOk.op {q : Kd × OM} (h : OmOk P G dt n ds o q) : OpOk P G dt n ds o q.2 := by
  obtain ⟨kd, m⟩ := q
  cases kd with
  | pure => obtain ⟨F, rfl, h1⟩ := h; exact h1.still.val.op
  | still => obtain ⟨F, rfl, h1⟩ := h; exact h1.val.op
  | make => obtain ⟨F, rfl, h1⟩ := h; exact h1.val.op
  | eff => exact h
end
end Go.Proofs.YtknjkljigmepjaaGreatDoor.Clo
end
section
namespace Go.Proofs.YtknjkljigmepjaaGreatDoor.Clo
open Go.RowKit
set_option linter.unusedVariables false
set_option linter.unusedSimpArgs false
variable [Tabs]
def undefA : AV := .tu .nil
theorem undefA_ok (φ : Id → Option Plc) : VR φ undefA undef := ⟨#[], rfl, rfl⟩
def ExR (φ : Id → Option Plc) : Ex → Exit → Prop
  | .normal, e => e = .normal
  | .exit i, e => e = .exit i
  | .ret, e => e = .ret
  | .pan v, e => ∃ v', e = .panic (one v') ∧ VR φ v v'
noncomputable def guardB (a : AV) (kt kf : R) : R := AV.rec (motive := fun _ => R) none none (fun _ _ _ _ => none) none (fun _ _ _ => none) none (fun _ _ _ _ _ => none) none (fun _ => none) (fun _ _ => kf) (fun _ _ => none) none (fun _ _ _ _ => none) (fun _ _ _ _ => none) (fun _ _ _ => none) (fun _ => none) (fun _ => none) none (fun _ _ => none) (fun _ => none) (fun x => Bool.rec kf kt x) (fun _ _ => none) a
noncomputable def guardN (a : AV) (kt kf : R) : R := AV.rec (motive := fun _ => R) none none (fun _ _ _ _ => none) none (fun _ _ _ => none) none (fun _ _ _ _ _ => none) none (fun _ => none) (fun _ _ => kf) (fun _ _ => none) none (fun _ _ _ _ => none) (fun _ _ _ _ => none) (fun _ _ _ => none) (fun _ => none) (fun _ => none) none (fun _ _ => none) (fun _ => none) (fun x => Bool.rec kt kf x) (fun _ _ => none) a
noncomputable def argsA : List GV → Env → Tr → AV
  | [], _, _ => .nil
  | g :: r, e, t => .cons (g.run e t) (argsA r e t)
abbrev OpM := List (Option Nat) → Oper → Option (Kd × OM)
section
variable (P : Program) (G dt n : Nat) (lo : Nat → Bool) (opM : OpM) (cmM : CmM)
noncomputable def wantedM (ds : List (Option Nat)) (ops : Array Oper) (o : Oper) (m : OM) : OM :=
  match o.guard with
  | none => m
  | some (j, w) => match (ops[j]?).bind (·.dst) with
    | none => .mk fun _ _ _ _ _ _ => none
    | some d => let g := opd G dt n ds (.tmp d)
      match w with
      | true => .mk fun hd e t hp k kp => guardB (g.run e t) (m.run hd e t hp k kp) (k undefA hp)
      | false => .mk fun hd e t hp k kp => guardN (g.run e t) (m.run hd e t hp k kp) (k undefA hp)
noncomputable def isFn (a : AV) (k : R) : R := a.on_fn fun f _ _ => match f with | .func _ => k | _ => none
noncomputable def omOf (ds : List (Option Nat)) (o : Oper) : Option OM := match opM ds o with
  | some (_, m) => some m
  | none => match cmM ds o with
    | some F => some (.mk fun _ e t hp k _ => F e t hp k)
    | none => none
noncomputable def opsM (ops : Array Oper) : List Oper → List (Option Nat) → RM
  | [], _ => .mk fun _ _ t hp k => k .normal t hp
  | o :: r, ds => match omOf opM cmM ds o with
    | none => match o.guard, o.dst, o.op with
      | none, none, .defer c => match c.callee with
        | .value f => let g := opd G dt n ds f
          let gs := c.args.toList.map (opd G dt n ds)
          let p := path dt n
          let q := opsM ops r (none :: ds)
          .mk fun hd e t hp k => isFn (g.run e t) (q.run hd (undefA :: e) (t.set p (.cons (.cons (g.run e t) (argsA gs e t)) (getT p t))) hp k)
        | _ => .mk fun _ _ _ _ _ => none
      | _, _, _ => .mk fun _ _ _ _ _ => none
    | some m =>
      let m := wantedM G dt n ds ops o m
      let q := opsM ops r (o.dst :: ds)
      match o.dst with
      | none => .mk fun hd e t hp k => m.run hd e t hp (fun v hp => q.run hd (v :: e) t hp k) fun v hp => k (.pan v) t hp
      | some d => if d < n then (if lo d then .mk fun hd e t hp k => m.run hd e t hp (fun v hp => q.run hd (v :: e) t hp k) fun v hp => k (.pan v) t hp
          else let p := path dt d; .mk fun hd e t hp k => m.run hd e t hp (fun v hp => q.run hd (v :: e) (t.set p v) hp k) fun v hp => k (.pan v) t hp)
        else .mk fun _ _ _ _ _ => none
variable {P G dt n lo opM cmM}
theorem opsR_of {φ : Id → Option Plc} {ds : List (Option Nat)} {e : Env} {t : Tr} {a : Act} (hg : Glo G φ) (hf : FR φ dt n lo t a) (he : EnvR φ ds e a.tmps) (op : Op) : OpsR G dt n ds φ e t a.eval op := fun x _ => opd_ok hg hf he x
theorem argsA_ok {φ : Id → Option Plc} {ds : List (Option Nat)} {e : Env} {t : Tr} {ev : Operand → Value} : ∀ {l : List Operand}, (∀ x ∈ l, VR φ ((opd G dt n ds x).run e t) (ev x)) → VL φ (argsA (l.map (opd G dt n ds)) e t) (l.map ev)
  | [], _ => rfl
  | x :: l, hx => ⟨_, _, rfl, hx x (by simp), argsA_ok fun y hy => hx y (by simp [hy])⟩
def OpOkG (cm : Bool) (P : Program) (G dt n : Nat) (lo : Nat → Bool) (ds : List (Option Nat)) (ops : Array Oper) (o : Oper) (m : OM) : Prop :=
  ∀ hd, HdOk P G hd → ∀ e t hp k kp r, m.run hd e t hp k kp = some r →
    (∃ v hp', k v hp' = some r ∧ ∀ φ (B : Bse hd.y.s) a w, Glo G φ → FR φ dt n lo t a → EnvR φ ds e a.tmps → WH φ B hp w → ∀ (K : Act → World → Prop) Q,
      (∀ v' w', Aft φ B hp w v hp' v' w' → K (a.put o.dst v') w') → if Region.wanted o (yielded ops a.tmps) = true then OWC cm hd.y.on P o a w K Q else K (a.put o.dst undef) w) ∨
    (∃ v hp', kp v hp' = some r ∧ ∀ φ (B : Bse hd.y.s) a w, Glo G φ → FR φ dt n lo t a → EnvR φ ds e a.tmps → WH φ B hp w → ∀ (K : Act → World → Prop) Q,
      (∀ v' w', Aft φ B hp w v hp' v' w' → Q (.panic (one v')) a w') → if Region.wanted o (yielded ops a.tmps) = true then OWC cm hd.y.on P o a w K Q else K (a.put o.dst undef) w)
theorem guardB_some {a : AV} {kt kf : R} {r : AV × HP} (h : guardB a kt kf = some r) : (a = .b true ∧ kt = some r) ∨ (((∃ l, a = .tu l) ∨ a = .b false) ∧ kf = some r) := by
  cases a <;> first | (cases h; done) | skip
  · exact .inr ⟨.inl ⟨_, rfl⟩, h⟩
  · rename_i x
    cases x
    · exact .inr ⟨.inr rfl, h⟩
    · exact .inl ⟨rfl, h⟩
theorem guardN_some {a : AV} {kt kf : R} {r : AV × HP} (h : guardN a kt kf = some r) : (a = .b false ∧ kt = some r) ∨ (((∃ l, a = .tu l) ∨ a = .b true) ∧ kf = some r) := by
  cases a <;> first | (cases h; done) | skip
  · exact .inr ⟨.inl ⟨_, rfl⟩, h⟩
  · rename_i x
    cases x
    · exact .inl ⟨rfl, h⟩
    · exact .inr ⟨.inr rfl, h⟩
theorem yielded_of {ops : Array Oper} {tmps : Array Value} {j d : Nat} (h : (ops[j]?).bind (·.dst) = some d) : yielded ops tmps j = match tmps.getD d undef with | .bool b => some b | _ => none := by
  unfold yielded
  rw [h]
  simp only [Option.bind_some, Array.getD_eq_getD_getElem?]
  cases tmps[d]? with
  | none => rfl
  | some v => cases v <;> rfl
theorem wanted_of {ops : Array Oper} {o : Oper} {j d : Nat} {w : Bool} (hg : o.guard = some (j, w)) (hj : (ops[j]?).bind (·.dst) = some d) (a : Act) : Region.wanted o (yielded ops a.tmps) = ((match a.tmps.getD d undef with | .bool b => some b | _ => none) == some w) := by
  unfold Region.wanted
  rw [hg]
  simp only [yielded_of hj]
theorem wantedM_ok {cm : Bool} {ds : List (Option Nat)} {ops : Array Oper} {o : Oper} {m : OM} (hm : OpOkC cm P G dt n ds o m) : OpOkG cm P G dt n lo ds ops o (wantedM G dt n ds ops o m) := by
  intro hd hok e t hp k kp r hr
  unfold wantedM at hr
  cases hg : o.guard with
  | none =>
    simp only [hg] at hr
    have hw : ∀ a : Act, Region.wanted o (yielded ops a.tmps) = true := fun a => by simp [Region.wanted, hg]
    rcases hm hd hok e t hp k kp r hr with ⟨v, hp', h1, h2⟩ | ⟨v, hp', h1, h2⟩
    · exact .inl ⟨v, hp', h1, fun φ B a w g1 g2 g3 g4 K Q hK => by rw [if_pos (hw a)]; exact h2 φ B a w g1 (opsR_of g1 g2 g3 _) g4 K Q hK⟩
    · exact .inr ⟨v, hp', h1, fun φ B a w g1 g2 g3 g4 K Q hK => by rw [if_pos (hw a)]; exact h2 φ B a w g1 (opsR_of g1 g2 g3 _) g4 K Q hK⟩
  | some jw =>
    obtain ⟨j, w⟩ := jw
    simp only [hg] at hr
    cases hj : (ops[j]?).bind (·.dst) with
    | none => simp only [hj] at hr; cases hr
    | some d =>
      simp only [hj] at hr
      have hw := fun a : Act => wanted_of hg hj a
      have go : (((opd G dt n ds (.tmp d)).run e t = .b w ∧ m.run hd e t hp k kp = some r) ∨ (((∃ l, (opd G dt n ds (.tmp d)).run e t = .tu l) ∨ (opd G dt n ds (.tmp d)).run e t = .b (!w)) ∧ k undefA hp = some r)) →
          (∃ v hp', k v hp' = some r ∧ ∀ φ (B : Bse hd.y.s) a w, Glo G φ → FR φ dt n lo t a → EnvR φ ds e a.tmps → WH φ B hp w → ∀ (K : Act → World → Prop) Q,
            (∀ v' w', Aft φ B hp w v hp' v' w' → K (a.put o.dst v') w') → if Region.wanted o (yielded ops a.tmps) = true then OWC cm hd.y.on P o a w K Q else K (a.put o.dst undef) w) ∨
          (∃ v hp', kp v hp' = some r ∧ ∀ φ (B : Bse hd.y.s) a w, Glo G φ → FR φ dt n lo t a → EnvR φ ds e a.tmps → WH φ B hp w → ∀ (K : Act → World → Prop) Q,
            (∀ v' w', Aft φ B hp w v hp' v' w' → Q (.panic (one v')) a w') → if Region.wanted o (yielded ops a.tmps) = true then OWC cm hd.y.on P o a w K Q else K (a.put o.dst undef) w) := by
        intro hc
        rcases hc with ⟨h1, h2⟩ | ⟨h1, h2⟩
        · have hpos : ∀ φ (a : Act), Glo G φ → FR φ dt n lo t a → EnvR φ ds e a.tmps → Region.wanted o (yielded ops a.tmps) = true := fun φ a g1 g2 g3 => by
            have hv := opd_ok (lo := lo) g1 g2 g3 (.tmp d)
            rw [h1] at hv
            have hv' : a.tmps.getD d undef = .bool w := hv
            rw [hw a, hv']; simp
          rcases hm hd hok e t hp k kp r h2 with ⟨v, hp', h3, h4⟩ | ⟨v, hp', h3, h4⟩
          · exact .inl ⟨v, hp', h3, fun φ B a w0 g1 g2 g3 g4 K Q hK => by rw [if_pos (hpos φ a g1 g2 g3)]; exact h4 φ B a w0 g1 (opsR_of g1 g2 g3 _) g4 K Q hK⟩
          · exact .inr ⟨v, hp', h3, fun φ B a w0 g1 g2 g3 g4 K Q hK => by rw [if_pos (hpos φ a g1 g2 g3)]; exact h4 φ B a w0 g1 (opsR_of g1 g2 g3 _) g4 K Q hK⟩
        · refine .inl ⟨undefA, hp, h2, fun φ B a w0 g1 g2 g3 g4 K Q hK => ?_⟩
          have hv := opd_ok (lo := lo) g1 g2 g3 (.tmp d)
          rw [if_neg ?_]
          · exact hK undef w0 ⟨φ, undefA_ok φ, Step.refl, g4⟩
          · rw [hw a]
            rcases h1 with ⟨l, h1⟩ | h1
            · rw [h1] at hv
              obtain ⟨xs, hv', _⟩ := hv
              have hv'' : a.tmps.getD d undef = .tuple xs := hv'
              rw [hv'']
              simp
            · rw [h1] at hv
              have hv'' : a.tmps.getD d undef = .bool (!w) := hv
              rw [hv'']
              cases w <;> simp
      cases w with
      | true => exact go (guardB_some hr)
      | false => exact go (guardN_some hr)
theorem isFn_some {a : AV} {k : R} {x : AV × HP} (h : isFn a k = some x) : ∃ f first cap, a = .fn (.func f) first cap ∧ k = some x := by
  obtain ⟨f, first, cap, h1, h2⟩ := AV.on_fn_some (show a.on_fn (fun f _ _ => match f with | .func _ => k | _ => none) = some x from h)
  cases f <;> first | (cases h2; done) | exact ⟨_, first, cap, h1, h2⟩
theorem FR.defer {φ : Id → Option Plc} {t : Tr} {a : Act} (hf : FR φ dt n lo t a) {f : FuncId} {first cap args : AV} {us ys ars : Array Value} (h1 : VL φ first us.toList) (h2 : VL φ cap ys.toList) (h3 : VL φ args ars.toList) :
    FR φ dt n lo (t.set (path dt n) (.cons (.cons (.fn (.func f) first cap) args) (getT (path dt n) t))) { a with defers := { target := .fn (.func f) ys, args := us ++ ars } :: a.defers } := by
  have ne : ∀ k, k < n → path dt k ≠ path dt n := fun k hk e => Nat.ne_of_lt hk (path_inj dt k n (Nat.lt_trans hk hf.cap) hf.cap e)
  refine ⟨hf.sz, hf.cap, fun k hk => ?_, fun k hk hl => ?_, ?_⟩
  · rw [getT_get, T4.get_set_other _ _ _ _ (by rw [path_len, path_len]) (ne k hk), ← getT_get]; exact hf.at' k hk
  · rw [getT_get, T4.get_set_other _ _ _ _ (by rw [path_len, path_len]) (ne k hk), ← getT_get]; exact hf.lo k hk hl
  · rw [getT_get (path dt n) (t.set _ _), T4.get_set_same]
    exact ⟨us, ys, ars, a.defers, rfl, h1, h2, h3, hf.df⟩
theorem omOf_ok {cm : Bool} (hop : ∀ ds o q, opM ds o = some q → OmOk P G dt n ds o q) (hcm : ∀ ds o F, cmM ds o = some F → cm = true ∧ ComOk P G dt n ds o F) {ds : List (Option Nat)} {o : Oper} {m : OM} (h : omOf opM cmM ds o = some m) : OpOkC cm P G dt n ds o m := by
  unfold omOf at h
  split at h
  · rename_i kd m' e; cases h; exact (hop _ _ _ e).op.c cm
  · split at h
    · rename_i F e; cases h; obtain ⟨rfl, h1⟩ := hcm _ _ _ e; exact h1.c
    · cases h
theorem opsM_gen {cm : Bool} (hop : ∀ ds o q, opM ds o = some q → OmOk P G dt n ds o q) (hcm : ∀ ds o F, cmM ds o = some F → cm = true ∧ ComOk P G dt n ds o F) (ops : Array Oper) (on : Bool) (W : (Exit → Act → World → Prop) → List Oper → Act → World → Prop) (hnil : ∀ Q a w, Q .normal a w → W Q [] a w)
    (hstep : ∀ Q o l a w, (∀ K : Act → World → Prop, (∀ a w, W Q l a w → K a w) → if Region.wanted o (yielded ops a.tmps) then OWC cm on P o a w K Q else K (a.put o.dst undef) w) → W Q (o :: l) a w) : ∀ (l : List Oper) (ds : List (Option Nat)) (hd : Hd), hd.y.on = on → HdOk P G hd → ∀ e t hp k r, (opsM G dt n lo opM cmM ops l ds).run hd e t hp k = some r →
    ∃ x t' hp', k x t' hp' = some r ∧ ∀ φ (B : Bse hd.y.s) a w, Glo G φ → FR φ dt n lo t a → EnvR φ ds e a.tmps → WH φ B hp w → ∀ Q, (∀ ψ a' w' x', ExR ψ x x' → FR ψ dt n lo t' a' → StH φ hp w ψ hp' w' → WH ψ B hp' w' → Q x' a' w') → W Q l a w
  | [], ds, hd, hon, hok, e, t, hp, k, r, hr => ⟨.normal, t, hp, hr, fun φ B a w g1 g2 g3 g4 Q hQ => hnil Q a w (hQ φ a w .normal rfl g2 Step.refl g4)⟩
  | o :: l, ds, hd, hon, hok, e, t, hp, k, r, hr => by
    subst hon
    unfold opsM at hr
    cases ho : omOf opM cmM ds o with
    | none =>
      simp only [ho] at hr
      split at hr
      · rename_i c hgd hdst hopd
        split at hr
        · rename_i f hcal
          obtain ⟨fid, first, cap, h1, h2⟩ := isFn_some hr
          obtain ⟨x, t', hp', h3, h4⟩ := opsM_gen hop hcm ops hd.y.on W hnil hstep l (none :: ds) hd rfl hok _ _ hp k r h2
          refine ⟨x, t', hp', h3, fun φ B a w g1 g2 g3 g4 Q hQ => hstep Q o l a w fun K hK => ?_⟩
          rw [if_pos (by simp [Region.wanted, hgd])]
          have hfv := opd_ok (lo := lo) g1 g2 g3 f
          rw [h1] at hfv
          obtain ⟨us, ys, e1, v1, v2⟩ := hfv
          have e1' : a.eval f = .func (.func fid) us ys := e1
          have hargs : VL φ (argsA (c.args.toList.map (opd G dt n ds)) e t) (c.args.map a.eval).toList := by rw [Array.toList_map]; exact argsA_ok fun x _ => opd_ok g1 g2 g3 x
          have hrun : (execOp a.eval o).run P w = .ok (.defer { target := .fn (.func fid) ys, args := us ++ c.args.map a.eval }) w := by
            unfold execOp
            rw [hopd]
            simp only [resolve, hcal, e1', Deferred.ofValue, Sem.run_bind, Sem.run_pure, Result.andThen_ok]
          refine .inl (.inl ?_)
          unfold Oper.wp
          rw [hrun]
          refine hK _ _ ?_
          rw [hdst]
          refine h4 φ B _ w g1 (by rw [h1]; exact (FR.defer g2 v1 v2 hargs).put_none) ?_ g4 Q hQ
          exact EnvR.put (v' := undef) (a := { a with defers := { target := .fn (.func fid) ys, args := us ++ c.args.map a.eval } :: a.defers }) g3 (undefA_ok φ) none (fun d h => by cases h)
        · cases hr
      · cases hr
    | some m =>
      simp only [ho] at hr
      have hw := wantedM_ok (lo := lo) (ops := ops) (omOf_ok hop hcm ho)
      have key : ∀ (t2 : AV → Tr), (∀ φ a v v', FR φ dt n lo t a → VR φ v v' → FR φ dt n lo (t2 v) (a.put o.dst v')) → (∀ d, o.dst = some d → d < n) →
          (wantedM G dt n ds ops o m).run hd e t hp (fun v hp => (opsM G dt n lo opM cmM ops l (o.dst :: ds)).run hd (v :: e) (t2 v) hp k) (fun v hp => k (.pan v) t hp) = some r →
          ∃ x t' hp', k x t' hp' = some r ∧ ∀ φ (B : Bse hd.y.s) a w, Glo G φ → FR φ dt n lo t a → EnvR φ ds e a.tmps → WH φ B hp w → ∀ Q, (∀ ψ a' w' x', ExR ψ x x' → FR ψ dt n lo t' a' → StH φ hp w ψ hp' w' → WH ψ B hp' w' → Q x' a' w') → W Q (o :: l) a w := by
        intro t2 ht2 hdl hrun
        rcases hw hd hok e t hp _ _ r hrun with ⟨v, hp1, h1, h2⟩ | ⟨v, hp1, h1, h2⟩
        · obtain ⟨x, t', hp', h3, h4⟩ := opsM_gen hop hcm ops hd.y.on W hnil hstep l (o.dst :: ds) hd rfl hok (v :: e) (t2 v) hp1 k r h1
          refine ⟨x, t', hp', h3, fun φ B a w g1 g2 g3 g4 Q hQ => hstep Q o l a w fun K hK => ?_⟩
          refine h2 φ B a w g1 g2 g3 g4 K Q fun v' w' ⟨ψ, hv, hs, hw'⟩ => hK _ _ ?_
          refine h4 ψ B (a.put o.dst v') w' (g1.more hs.more) (ht2 ψ a v v' (g2.more hs.more) hv) (EnvR.put (g3.more hs.more) hv o.dst (fun d hd' => by rw [g2.sz]; exact hdl d hd')) hw' Q fun χ a' w'' x' f0 f1 f2 f3 => ?_
          exact hQ χ a' w'' x' f0 f1 (hs.trans f2) f3
        · refine ⟨.pan v, t, hp1, h1, fun φ B a w g1 g2 g3 g4 Q hQ => hstep Q o l a w fun K hK => ?_⟩
          exact h2 φ B a w g1 g2 g3 g4 K Q fun v' w' ⟨ψ, hv, hs, hw'⟩ => hQ ψ a w' _ ⟨v', rfl, hv⟩ (g2.more hs.more) hs hw'
      cases hds : o.dst with
      | none =>
        simp only [hds] at hr
        exact key (fun _ => t) (fun φ a v v' hf hv => by rw [hds]; exact hf.put_none) (fun d e => by rw [hds] at e; cases e) (by rw [hds]; exact hr)
      | some d =>
        simp only [hds] at hr
        by_cases hdn : d < n
        · simp only [hdn, if_true] at hr
          by_cases hl : lo d = true
          · simp only [hl, if_true] at hr
            exact key (fun _ => t) (fun φ a v v' hf hv => by rw [hds]; exact hf.put_lo hdn hl) (fun d' e => by rw [hds] at e; cases e; exact hdn) (by rw [hds]; exact hr)
          · simp only [hl, if_false, Bool.false_eq_true] at hr
            exact key (fun v => t.set (path dt d) v) (fun φ a v v' hf hv => by rw [hds]; exact hf.put hdn (by simpa using hl) hv) (fun d' e => by rw [hds] at e; cases e; exact hdn) (by rw [hds]; exact hr)
        · simp only [hdn, if_false] at hr
          cases hr
end
end Go.Proofs.YtknjkljigmepjaaGreatDoor.Clo
end
