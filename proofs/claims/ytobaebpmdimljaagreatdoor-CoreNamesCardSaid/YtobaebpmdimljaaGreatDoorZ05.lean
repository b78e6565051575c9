/- Part 5 of a proof laid in parts, one behind the other; no condition of its own. -/
import Derived.Tactics
import Derived.Below
import Derived.KernelRfl
import Derived.Laws.Cells
import Derived.Recover
import Derived.Laws.IdiomCopy
import Derived.Deep.AppendSrc
set_option linter.all false
section
namespace Go.Proofs.YtobaebpmdimljaaGreatDoor.Clo
set_option linter.unusedVariables false
set_option linter.unusedSimpArgs false
inductive D4 | a | b | c | d
  deriving DecidableEq
abbrev Id := List D4
inductive AV where
  | u
  | nil
  | cons (x r : AV)
  | inil
  | ifc (t : TypeId) (x : AV)
  | fnil
  | fn (f : Fn) (first cap : AV)
  | mn
  | mp (r : Id)
  | tu (l : AV)
  | ag (l : AV)
  | sn
  | sl (r : Id) (o n : Nat) (c : Option Nat)
  | sg (r : Id) (o n z : Nat)
  | se (r : Id)
  | yd (r : Id)
  | pn
  | p (r : Id) (o : Nat)
  | s (l : List Nat)
  | b (x : Bool)
  | i (k : IntKind) (n : Int)
  deriving Inhabited
abbrev Plc := Nat × Nat
def bytesOf (l : List Nat) : ByteArray := ⟨(l.map UInt8.ofNat).toArray⟩
def AV.says (φ : Id → Option Plc) : AV → (Value → Prop) × (List Value → Prop)
  | .u => (fun _ => True, fun _ => False)
  | .nil => (fun _ => False, fun l => l = [])
  | .cons x r => (fun _ => False, fun l => ∃ v vs, l = v :: vs ∧ (x.says φ).1 v ∧ (r.says φ).2 vs)
  | .inil => (fun v => v = .nilIface, fun _ => False)
  | .ifc t x => (fun v => ∃ w, v = .iface t w ∧ (x.says φ).1 w, fun _ => False)
  | .fnil => (fun v => v = .nilFunc, fun _ => False)
  | .fn f a c => (fun v => ∃ xs ys : Array Value, v = .func f xs ys ∧ (a.says φ).2 xs.toList ∧ (c.says φ).2 ys.toList, fun _ => False)
  | .mn => (fun v => v = .map none, fun _ => False)
  | .mp r => (fun v => ∃ g, φ r = some g ∧ v = .map (some g.1), fun _ => False)
  | .tu l => (fun v => ∃ xs : Array Value, v = .tuple xs ∧ (l.says φ).2 xs.toList, fun _ => False)
  | .ag l => (fun v => ∃ xs : Array Value, v = .agg xs ∧ (l.says φ).2 xs.toList, fun _ => False)
  | .sn => (fun v => v = .slice none 0 0, fun _ => False)
  | .sl r o n c => (fun v => ∃ g k, φ r = some g ∧ v = .slice (some ⟨g.1, o, none⟩) n k ∧ n ≤ k ∧ (∀ m, c = some m → k = m), fun _ => False)
  | .sg r o n z => (fun v => ∃ g k, φ r = some g ∧ v = .slice (some ⟨g.1, o, none⟩) n k ∧ n ≤ k ∧ o + k * z = g.2, fun _ => False)
  | .se r => (fun v => ∃ g o k, φ r = some g ∧ v = .slice (some ⟨g.1, o, none⟩) 0 k, fun _ => False)
  | .yd r => (fun v => ∃ g, φ r = some g ∧ v = .func (.yield g.1) #[] #[], fun _ => False)
  | .pn => (fun v => v = .pointer none, fun _ => False)
  | .p r o => (fun v => ∃ g, φ r = some g ∧ v = .pointer (some ⟨g.1, o, none⟩), fun _ => False)
  | .s l => (fun v => v = .string (bytesOf l) ∧ ∀ x ∈ l, x < 256, fun _ => False)
  | .b x => (fun v => v = .bool x, fun _ => False)
  | .i k n => (fun v => v = .int k n, fun _ => False)
abbrev VR (φ : Id → Option Plc) (x : AV) (v : Value) : Prop := (x.says φ).1 v
abbrev VL (φ : Id → Option Plc) (x : AV) (l : List Value) : Prop := (x.says φ).2 l
def More (φ ψ : Id → Option Plc) : Prop := ∀ r g, φ r = some g → ψ r = some g
theorem More.refl (φ : Id → Option Plc) : More φ φ := fun _ _ h => h
theorem More.trans {φ ψ χ : Id → Option Plc} (h : More φ ψ) (k : More ψ χ) : More φ χ := fun r g e => k r g (h r g e)
theorem says_more {φ ψ : Id → Option Plc} (h : More φ ψ) : ∀ x : AV, (∀ v, VR φ x v → VR ψ x v) ∧ (∀ l, VL φ x l → VL ψ x l) := by
  intro x
  induction x with
  | u => exact ⟨fun _ h => h, fun _ h => h⟩
  | nil => exact ⟨fun _ h => h, fun _ h => h⟩
  | cons x r hx hr => exact ⟨fun _ h => h, fun l ⟨v, vs, e, h1, h2⟩ => ⟨v, vs, e, hx.1 v h1, hr.2 vs h2⟩⟩
  | inil => exact ⟨fun _ h => h, fun _ h => h⟩
  | ifc t x hx => exact ⟨fun v ⟨w, e, h1⟩ => ⟨w, e, hx.1 w h1⟩, fun _ h => h⟩
  | fnil => exact ⟨fun _ h => h, fun _ h => h⟩
  | fn f a c ha hc => exact ⟨fun v ⟨xs, ys, e, h1, h2⟩ => ⟨xs, ys, e, ha.2 _ h1, hc.2 _ h2⟩, fun _ h => h⟩
  | mn => exact ⟨fun _ h => h, fun _ h => h⟩
  | mp r => exact ⟨fun v ⟨g, h1, e⟩ => ⟨g, h r g h1, e⟩, fun _ h => h⟩
  | tu l hl => exact ⟨fun v ⟨xs, e, h1⟩ => ⟨xs, e, hl.2 _ h1⟩, fun _ h => h⟩
  | ag l hl => exact ⟨fun v ⟨xs, e, h1⟩ => ⟨xs, e, hl.2 _ h1⟩, fun _ h => h⟩
  | sn => exact ⟨fun _ h => h, fun _ h => h⟩
  | sl r o n c => exact ⟨fun v ⟨g, k, h1, e⟩ => ⟨g, k, h r g h1, e⟩, fun _ h => h⟩
  | sg r o n z => exact ⟨fun v ⟨g, k, h1, e⟩ => ⟨g, k, h r g h1, e⟩, fun _ h => h⟩
  | se r => exact ⟨fun v ⟨g, o, k, h1, e⟩ => ⟨g, o, k, h r g h1, e⟩, fun _ h => h⟩
  | yd r => exact ⟨fun v ⟨g, h1, e⟩ => ⟨g, h r g h1, e⟩, fun _ h => h⟩
  | pn => exact ⟨fun _ h => h, fun _ h => h⟩
  | p r o => exact ⟨fun v ⟨g, h1, e⟩ => ⟨g, h r g h1, e⟩, fun _ h => h⟩
  | s l => exact ⟨fun _ h => h, fun _ h => h⟩
  | b x => exact ⟨fun _ h => h, fun _ h => h⟩
  | i k n => exact ⟨fun _ h => h, fun _ h => h⟩
theorem VR.more {φ ψ : Id → Option Plc} {x : AV} {v : Value} (h : VR φ x v) (k : More φ ψ) : VR ψ x v := (says_more k x).1 v h
theorem VL.more {φ ψ : Id → Option Plc} {x : AV} {l : List Value} (h : VL φ x l) (k : More φ ψ) : VL ψ x l := (says_more k x).2 l h
inductive T4 (α : Type) where
  | e
  | l (v : α)
  | n (a b c d : T4 α)
section
variable {α : Type}
noncomputable def T4.get (p : Id) : T4 α → Option α :=
  List.rec (motive := fun _ => T4 α → Option α) (fun t => T4.rec (motive := fun _ => Option α) none (fun v => some v) (fun _ _ _ _ _ _ _ _ => none) t)
    (fun q _ ih t => T4.rec (motive := fun _ => Option α) none (fun _ => none) (fun a b c d _ _ _ _ => ih (D4.rec a b c d q)) t) p
noncomputable def T4.set (p : Id) : α → T4 α → T4 α :=
  List.rec (motive := fun _ => α → T4 α → T4 α) (fun v _ => .l v)
    (fun q _ ih v t => T4.rec (motive := fun _ => T4 α) (D4.rec (.n (ih v .e) .e .e .e) (.n .e (ih v .e) .e .e) (.n .e .e (ih v .e) .e) (.n .e .e .e (ih v .e)) q)
      (fun _ => D4.rec (.n (ih v .e) .e .e .e) (.n .e (ih v .e) .e .e) (.n .e .e (ih v .e) .e) (.n .e .e .e (ih v .e)) q)
      (fun a b c d _ _ _ _ => D4.rec (.n (ih v a) b c d) (.n a (ih v b) c d) (.n a b (ih v c) d) (.n a b c (ih v d)) q) t) p
noncomputable def T4.del (p : Id) : T4 α → T4 α :=
  List.rec (motive := fun _ => T4 α → T4 α) (fun _ => .e)
    (fun q _ ih t => T4.rec (motive := fun _ => T4 α) .e (fun _ => .e) (fun a b c d _ _ _ _ => D4.rec (.n (ih a) b c d) (.n a (ih b) c d) (.n a b (ih c) d) (.n a b c (ih d)) q) t) p
theorem T4.get_e : ∀ p : Id, (T4.e : T4 α).get p = none
  | [] => rfl
  | _ :: _ => rfl
theorem T4.get_set_same (v : α) : ∀ (p : Id) (t : T4 α), (t.set p v).get p = some v
  | [], t => rfl
  | q :: p, t => by cases t <;> cases q <;> exact T4.get_set_same v p _
theorem T4.get_set_other (v : α) : ∀ (p p' : Id) (t : T4 α), p.length = p'.length → p' ≠ p → (t.set p v).get p' = t.get p'
  | [], [], t, _, h => absurd rfl h
  | q :: p, q' :: p', t, hl, h => by
    have hl' : p.length = p'.length := by simpa using hl
    by_cases hq : q' = q
    · subst hq
      have hp : p' ≠ p := fun e => h (by rw [e])
      cases t <;> cases q' <;> first | exact (T4.get_set_other v p p' _ hl' hp).trans (T4.get_e p') | exact T4.get_set_other v p p' _ hl' hp
    · cases t <;> cases q <;> cases q' <;> first | exact absurd rfl hq | exact T4.get_e p' | rfl
theorem T4.get_del_other : ∀ (p p' : Id) (t : T4 α), p.length = p'.length → p' ≠ p → (t.del p).get p' = t.get p'
  | [], [], t, _, h => absurd rfl h
  | q :: p, q' :: p', t, hl, h => by
    have hl' : p.length = p'.length := by simpa using hl
    by_cases hq : q' = q
    · subst hq
      have hp : p' ≠ p := fun e => h (by rw [e])
      cases t <;> cases q' <;> first | rfl | exact T4.get_del_other p p' _ hl' hp
    · cases t <;> cases q <;> cases q' <;> first | exact absurd rfl hq | rfl
end
section
variable {α : Type}
theorem T4.get_of_set (v : α) : ∀ (p r : Id) (t : T4 α) (y : α), (t.set p v).get r = some y → r ≠ p → t.get r = some y
  | [], [], t, y, _, h => absurd rfl h
  | [], _ :: _, t, y, he, _ => by cases he
  | q :: p, [], t, y, he, _ => by cases t <;> cases q <;> cases he
  | q :: p, q' :: r, t, y, he, h => by
    by_cases hq : q' = q
    · subst hq
      have hp : r ≠ p := fun e' => h (by rw [e'])
      cases t <;> cases q' <;> first | exact T4.get_of_set v p r _ y he hp | (have := T4.get_of_set v p r _ y he hp; rw [T4.get_e] at this; cases this)
    · cases t <;> cases q <;> cases q' <;> first | exact absurd rfl hq | exact he | (have e' := (T4.get_e r).symm.trans he; cases e')
theorem T4.get_of_del : ∀ (p r : Id) (t : T4 α) (y : α), (t.del p).get r = some y → t.get r = some y ∧ r ≠ p
  | [], r, t, y, he => by
    have e' := (T4.get_e r).symm.trans he
    cases e'
  | q :: p, [], t, y, he => by cases t <;> cases q <;> cases he
  | q :: p, q' :: r, t, y, he => by
    by_cases hq : q' = q
    · subst hq
      cases t <;> cases q' <;> first | (cases he; done) | (obtain ⟨h1, h2⟩ := T4.get_of_del p r _ y he; exact ⟨h1, fun e' => h2 (by cases e'; rfl)⟩)
    · refine ⟨?_, fun e' => hq (by cases e'; rfl)⟩
      cases t <;> cases q <;> cases q' <;> first | exact absurd rfl hq | exact he | (cases he; done)
end
def dig (k : Nat) : D4 := match k % 4 with | 0 => .a | 1 => .b | 2 => .c | _ => .d
def path : Nat → Nat → Id
  | 0, _ => []
  | f + 1, k => dig k :: path f (k / 4)
theorem path_len : ∀ f k, (path f k).length = f
  | 0, _ => rfl
  | f + 1, k => by simp [path, path_len f]
theorem dig_inj {j k : Nat} (h : dig j = dig k) : j % 4 = k % 4 := by
  unfold dig at h
  have hj : j % 4 < 4 := Nat.mod_lt _ (by decide)
  have hk : k % 4 < 4 := Nat.mod_lt _ (by decide)
  generalize j % 4 = x at *
  generalize k % 4 = y at *
  match x, hj, y, hk with
  | 0, _, 0, _ | 1, _, 1, _ | 2, _, 2, _ | 3, _, 3, _ => rfl
  | 0, _, 1, _ | 0, _, 2, _ | 0, _, 3, _ | 1, _, 0, _ | 1, _, 2, _ | 1, _, 3, _ | 2, _, 0, _ | 2, _, 1, _ | 2, _, 3, _ | 3, _, 0, _ | 3, _, 1, _ | 3, _, 2, _ => cases h
theorem path_inj : ∀ (f j k : Nat), j < 4 ^ f → k < 4 ^ f → path f j = path f k → j = k
  | 0, j, k, hj, hk, _ => by simp at hj hk; omega
  | f + 1, j, k, hj, hk, h => by
    simp only [path, List.cons.injEq] at h
    have h1 := dig_inj h.1
    have e : 4 ^ (f + 1) = 4 * 4 ^ f := by rw [Nat.pow_succ, Nat.mul_comm]
    have h2 := path_inj f (j / 4) (k / 4) (by omega) (by omega) h.2
    omega
def inc : Id → Id
  | [] => []
  | .a :: r => .b :: r
  | .b :: r => .c :: r
  | .c :: r => .d :: r
  | .d :: r => .a :: inc r
def num : Id → Nat
  | [] => 0
  | .a :: r => 4 * num r
  | .b :: r => 4 * num r + 1
  | .c :: r => 4 * num r + 2
  | .d :: r => 4 * num r + 3
theorem inc_len : ∀ p : Id, (inc p).length = p.length
  | [] => rfl
  | x :: p => by cases x <;> simp [inc, inc_len p]
def last : Id → Bool
  | [] => true
  | .d :: r => last r
  | _ => false
theorem inc_num : ∀ p : Id, last p = false → num (inc p) = num p + 1
  | [], h => by cases h
  | x :: p, h => by
    cases x <;> simp only [inc, num] <;> try omega
    have := inc_num p (by simpa [last] using h)
    omega
end Go.Proofs.YtobaebpmdimljaaGreatDoor.Clo
end
section
namespace Go.Proofs.YtobaebpmdimljaaGreatDoor.Clo
open Go.RowKit
set_option linter.unusedVariables false
set_option linter.unusedSimpArgs false
def DB : Nat := 8
def FzR (fz : Option Nat) (m : Nat × Nat) (K : Nat) : Prop := match fz with
  | some z => ∀ i, i < K → m.1 ≤ i → i < m.2 → i < z
  | none => True
inductive Blk where
  | row (t : TypeId) (grow : Bool) (fz : Option Nat) (ro : Bool) (cells : AV)
  | tab (l : AV)
  | iter (s : List Nat) (pos : Nat)
  | dfd (op : Bool)
  | loop (st : LoopState) (pend : Option Code)
def Blk.lp : Blk → Bool
  | .loop _ _ => true
  | _ => false
def Blk.ro : Blk → Bool
  | .row _ _ _ ro _ => ro
  | _ => false
def ents (φ : Id → Option Plc) : AV → List MapEntry → Prop
  | .nil, l => l = []
  | .cons (.cons k v) r, l => ∃ e es, l = e :: es ∧ VR φ k e.key ∧ VR φ v e.val ∧ ents φ r es
  | _, _ => False
def Blk.says (φ : Id → Option Plc) (K : Nat) : Blk → Obj → Prop
  | .row t grow fz _ cells, o => ∃ (c : Array Value) (l rest : List Value) (m : Nat × Nat), o = .cells c t m ∧ c.toList = l ++ rest ∧ VL φ cells l ∧ (grow = false → rest = []) ∧ c.size = K ∧ FzR fz m K
  | .tab l, o => ∃ es k, o = .map es k ∧ ents φ l es.toList
  | .iter s p, o => o = .stringIter (bytesOf s) p
  | .dfd b, o => o = .deferred (match b with | true => some [] | false => none)
  | .loop st pend, o => ∃ rec : Loop, o = .loop rec ∧ rec.state = st ∧ rec.pending = pend
theorem ents_more {φ ψ : Id → Option Plc} (h : More φ ψ) : ∀ (x : AV) (l : List MapEntry), ents φ x l → ents ψ x l
  | .nil, _, k => k
  | .cons (.cons k v) r, l, ⟨e, es, h1, h2, h3, h4⟩ => ⟨e, es, h1, h2.more h, h3.more h, ents_more h r es h4⟩
theorem Blk.says_more {φ ψ : Id → Option Plc} (h : More φ ψ) {K : Nat} {x : Blk} {o : Obj} (k : x.says φ K o) : x.says ψ K o := by
  cases x with
  | row t grow fz ro cells => obtain ⟨c, l, rest, m, h1, h2, h3, h4⟩ := k; exact ⟨c, l, rest, m, h1, h2, h3.more h, h4⟩
  | tab l => obtain ⟨es, c, h1, h2⟩ := k; exact ⟨es, c, h1, ents_more h l _ h2⟩
  | iter s p => exact k
  | dfd b => exact k
  | loop st pend => exact k
theorem Blk.says_not_loop {φ : Id → Option Plc} {K : Nat} {x : Blk} {rec : Loop} (hx : x.lp = false) (k : x.says φ K (.loop rec)) : False := by
  cases x with
  | row t grow fz ro cells => obtain ⟨c, l, rest, m, h1, _⟩ := k; cases h1
  | tab l => obtain ⟨es, c, h1, _⟩ := k; cases h1
  | iter s p => cases k
  | dfd b => cases k
  | loop st pend => cases hx
abbrev Mem := T4 Blk
structure Site where
  r : Id
  dt : Nat
  n : Nat
  lo : Nat → Bool
  t : T4 AV
  ps : Array Tmp
  as' : Code
  bd : Code
structure Conc where
  l : Nat
  tmps : Array Value
structure SiteR (φ : Id → Option Plc) (w : World) (s : Site) (c : Conc) : Prop where
  pl : ∃ K, φ s.r = some (c.l, K)
  rc : ∃ rec : Loop, w.heap[c.l]? = some (.loop rec) ∧ rec.tmps = c.tmps ∧ rec.params = s.ps ∧ rec.assign = s.as' ∧ rec.body = s.bd
  sz : c.tmps.size = s.n
  cap : s.n < 4 ^ s.dt
  at' : ∀ d, d < s.n → VR φ ((s.t.get (path s.dt d)).getD .u) (c.tmps.getD d undef)
  lo : ∀ d, d < s.n → s.lo d = true → (s.t.get (path s.dt d)).getD .u = .u
  df : (s.t.get (path s.dt s.n)).getD .u = .u
def LoopsR (φ : Id → Option Plc) (w : World) : List Site → List Conc → Prop
  | [], _ => True
  | s :: ss, c :: cs => SiteR φ w s c ∧ LoopsR φ w ss cs
  | _ :: _, [] => False
def LK (w w' : World) : Prop := ∀ (l : Nat) (rec : Loop), w.heap[l]? = some (.loop rec) → ∃ rec' : Loop, w'.heap[l]? = some (.loop rec') ∧ rec'.tmps = rec.tmps ∧ rec'.params = rec.params ∧ rec'.assign = rec.assign ∧ rec'.body = rec.body
theorem LK.same {w w' : World} (h : ∀ j, j < w.heap.size → w'.heap[j]? = w.heap[j]?) : LK w w' := fun l rec e => ⟨rec, by rw [h l (Array.getElem?_eq_some_iff.1 e).1]; exact e, rfl, rfl, rfl, rfl⟩
theorem LK.refl (w : World) : LK w w := fun l rec e => ⟨rec, e, rfl, rfl, rfl, rfl⟩
theorem LK.trans {w w' w'' : World} (a : LK w w') (b : LK w' w'') : LK w w'' := fun l rec e => by
  obtain ⟨r1, e1, h1, h2, h3, h4⟩ := a l rec e
  obtain ⟨r2, e2, k1, k2, k3, k4⟩ := b l r1 e1
  exact ⟨r2, e2, k1.trans h1, k2.trans h2, k3.trans h3, k4.trans h4⟩
theorem SiteR.mono {φ ψ : Id → Option Plc} {w w' : World} {s : Site} {c : Conc} (h : SiteR φ w s c) (hm : More φ ψ) (hk : LK w w') : SiteR ψ w' s c := by
  obtain ⟨rec, e, h1, h2, h3, h4⟩ := h.rc
  obtain ⟨rec', e', k1, k2, k3, k4⟩ := hk _ _ e
  exact ⟨let ⟨K, e⟩ := h.pl; ⟨K, hm _ _ e⟩, ⟨rec', e', k1.trans h1, k2.trans h2, k3.trans h3, k4.trans h4⟩, h.sz, h.cap, fun d hd => (h.at' d hd).more hm, h.lo, h.df⟩
theorem LoopsR.mono {φ ψ : Id → Option Plc} {w w' : World} (hm : More φ ψ) (hk : LK w w') : ∀ {ss : List Site} {cs : List Conc}, LoopsR φ w ss cs → LoopsR ψ w' ss cs
  | [], _, _ => trivial
  | s :: ss, c :: cs, ⟨h1, h2⟩ => ⟨h1.mono hm hk, LoopsR.mono hm hk h2⟩
  | _ :: _, [], h => h.elim
structure Bse (sts : List Site) where
  b : Nat
  cs : List Conc
structure WR (φ : Id → Option Plc) {sts : List Site} (B : Bse sts) (h : Mem) (nx : Id) (w : World) : Prop where
  len : nx.length = DB
  fresh : ∀ r, h.get r ≠ none ∨ φ r ≠ none → r.length = DB ∧ num r < num nx
  blk : ∀ r x g, h.get r = some x → φ r = some g → ∃ o, w.heap[g.1]? = some o ∧ x.says φ g.2 o
  inj : ∀ r r' x x' g g', h.get r = some x → h.get r' = some x' → φ r = some g → φ r' = some g' → g.1 = g'.1 → r = r'
  lt : ∀ r g, φ r = some g → g.1 < w.heap.size
  base : ∀ r x g, h.get r = some x → x.ro = false → φ r = some g → B.b ≤ g.1
  bsz : B.b ≤ w.heap.size
  loops : LoopsR φ w sts B.cs
structure RW (φ : Id → Option Plc) (h : Mem) (w : World) : Prop where
  blk : ∀ r x g, h.get r = some x → φ r = some g → ∃ o, w.heap[g.1]? = some o ∧ x.says φ g.2 o
theorem WR.rw {φ : Id → Option Plc} {sts : List Site} {B : Bse sts} {h : Mem} {nx : Id} {w : World} (hw : WR φ B h nx w) : RW φ h w := ⟨hw.blk⟩
def Own (φ : Id → Option Plc) (h : Mem) (b : Nat) : Prop := ∃ r x g, h.get r = some x ∧ x.ro = false ∧ φ r = some g ∧ g.1 = b
structure Step (φ : Id → Option Plc) (h : Mem) (nx : Id) (w : World) (ψ : Id → Option Plc) (h' : Mem) (nx' : Id) (w' : World) : Prop where
  more : More φ ψ
  os : w'.os = w.os
  tape : w'.tape = w.tape
  out : w'.output = w.output
  size : w.heap.size ≤ w'.heap.size
  keep : ∀ g, g < w.heap.size → ¬ Own φ h g → w'.heap[g]? = w.heap[g]?
  back : ∀ g, g < w.heap.size → Own ψ h' g → Own φ h g
  ghost : ∀ r x, h.get r = some x → φ r = none → h'.get r = some x ∧ ψ r = none
  next : num nx ≤ num nx'
  old : ∀ r, r.length = DB → num r < num nx → ψ r = φ r
  lk : LK w w'
section
variable {φ ψ χ : Id → Option Plc} {h h' h'' : Mem} {nx nx' nx'' : Id} {w w' w'' : World} {sts : List Site} {B : Bse sts}
theorem Step.refl : Step φ h nx w φ h nx w := ⟨.refl _, rfl, rfl, rfl, Nat.le_refl _, fun _ _ _ => rfl, fun _ _ h => h, fun _ _ h k => ⟨h, k⟩, Nat.le_refl _, fun _ _ _ => rfl, LK.refl _⟩
theorem Step.trans (a : Step φ h nx w ψ h' nx' w') (b : Step ψ h' nx' w' χ h'' nx'' w'') : Step φ h nx w χ h'' nx'' w'' where
  more := a.more.trans b.more
  os := b.os.trans a.os
  tape := b.tape.trans a.tape
  out := b.out.trans a.out
  size := Nat.le_trans a.size b.size
  keep g hg hn := (b.keep g (Nat.lt_of_lt_of_le hg a.size) (fun ho => hn (a.back g hg ho))).trans (a.keep g hg hn)
  back g hg ho := a.back g hg (b.back g (Nat.lt_of_lt_of_le hg a.size) ho)
  ghost r x hr hn := by
    obtain ⟨h1, h2⟩ := a.ghost r x hr hn
    exact b.ghost r x h1 h2
  next := Nat.le_trans a.next b.next
  old r hl hr := (b.old r hl (Nat.lt_of_lt_of_le hr a.next)).trans (a.old r hl hr)
  lk := a.lk.trans b.lk
theorem Step.below (hw : WR φ B h nx w) (a : Step φ h nx w ψ h' nx' w') : Below B.b w w' :=
  ⟨a.os, a.tape, a.out, a.size, fun b hb => a.keep b (Nat.lt_of_lt_of_le hb hw.bsz) (fun ⟨r, x, g, h1, h2, h3, h4⟩ => by have := hw.base r x g h1 h2 h3; omega)⟩
end
structure NewW (w : World) (o : Obj) (w' : World) : Prop where
  os : w'.os = w.os
  tape : w'.tape = w.tape
  out : w'.output = w.output
  size : w'.heap.size = w.heap.size + 1
  old : ∀ j, j < w.heap.size → w'.heap[j]? = w.heap[j]?
  at' : w'.heap[w.heap.size]? = some o
theorem NewW.alloc (w : World) (o : Obj) : NewW w o (w.alloc o) := ⟨rfl, rfl, rfl, by simp, fun j hj => Below.heap_alloc w o j hj, heap_alloc_new w o⟩
def ext (φ : Id → Option Plc) (r : Id) (g : Plc) : Id → Option Plc := fun q => if q = r then some g else φ q
theorem ext_same (φ : Id → Option Plc) (r : Id) (g : Plc) : ext φ r g r = some g := by simp [ext]
theorem ext_other (φ : Id → Option Plc) {r q : Id} (g : Plc) (h : q ≠ r) : ext φ r g q = φ q := by simp [ext, h]
theorem ext_more {φ : Id → Option Plc} {r : Id} (g : Plc) (h : φ r = none) : More φ (ext φ r g) := fun q k e => by
  by_cases hq : q = r
  · subst hq; rw [h] at e; cases e
  · rw [ext_other φ g hq]; exact e
section
variable {φ : Id → Option Plc} {h : Mem} {nx : Id} {w : World} {sts : List Site} {B : Bse sts}
theorem WR.nx_none (hw : WR φ B h nx w) : h.get nx = none ∧ φ nx = none := by
  constructor
  · cases e : h.get nx with
    | none => rfl
    | some x => have := (hw.fresh nx (.inl (by rw [e]; simp))).2; omega
  · cases e : φ nx with
    | none => rfl
    | some x => have := (hw.fresh nx (.inr (by rw [e]; simp))).2; omega
theorem WR.new (hw : WR φ B h nx w) (hl : last nx = false) {x : Blk} {o : Obj} {K : Nat} {w' : World} (hx : x.says φ K o) (hn : NewW w o w') :
    WR (ext φ nx (w.heap.size, K)) B (h.set nx x) (inc nx) w' ∧ Step φ h nx w (ext φ nx (w.heap.size, K)) (h.set nx x) (inc nx) w' := by
  obtain ⟨hn1, hn2⟩ := hw.nx_none
  have hm : More φ (ext φ nx (w.heap.size, K)) := ext_more _ hn2
  have hinc := inc_num nx hl
  have hd : nx.length = DB := hw.len
  have hne : ∀ r, h.get r ≠ none ∨ φ r ≠ none → r ≠ nx := fun r hr e => by subst e; have := (hw.fresh _ hr).2; omega
  have back : ∀ r y, (h.set nx x).get r = some y → r ≠ nx → h.get r = some y := fun r y e hr => T4.get_of_set x nx r h y e hr
  have same : (h.set nx x).get nx = some x := T4.get_set_same x nx h
  have fwd : ∀ r y, h.get r = some y → (h.set nx x).get r = some y := fun r y e => by
    have hf := hw.fresh r (.inl (by rw [e]; simp))
    exact (T4.get_set_other x nx r h (hd.trans hf.1.symm) (hne r (.inl (by rw [e]; simp)))).trans e
  have hlt : ∀ r g, φ r = some g → g.1 ≠ w.heap.size := fun r g e => Nat.ne_of_lt (hw.lt r g e)
  constructor
  · refine ⟨by rw [inc_len]; exact hd, fun r hr => ?_, fun r y g hr hg => ?_, fun r r' y y' g g' hr hr' hg hg' hgg => ?_, fun r g hg => ?_, fun r y g hr hy hg => ?_, by rw [hn.size]; have := hw.bsz; omega, hw.loops.mono hm (LK.same hn.old)⟩
    · by_cases hq : r = nx
      · subst hq; exact ⟨hd, by rw [hinc]; omega⟩
      · have : h.get r ≠ none ∨ φ r ≠ none := by
          rcases hr with hr | hr
          · left
            cases e : (h.set nx x).get r with
            | none => exact absurd e hr
            | some y => rw [back r y e hq]; simp
          · right; rw [ext_other φ _ hq] at hr; exact hr
        have hf := hw.fresh r this
        exact ⟨hf.1, by rw [hinc]; omega⟩
    · by_cases hq : r = nx
      · subst hq
        rw [same] at hr
        rw [ext_same] at hg
        cases hr; cases hg
        exact ⟨o, hn.at', Blk.says_more hm hx⟩
      · rw [ext_other φ _ hq] at hg
        obtain ⟨o', h1, h2⟩ := hw.blk r y g (back r y hr hq) hg
        exact ⟨o', (hn.old g.1 (hw.lt r g hg)).trans h1, Blk.says_more hm h2⟩
    · by_cases hq : r = nx
      · subst hq
        rw [ext_same] at hg
        cases hg
        by_cases hq' : r' = r
        · exact hq'.symm
        · rw [ext_other φ _ hq'] at hg'
          exact absurd hgg.symm (hlt r' _ hg')
      · rw [ext_other φ _ hq] at hg
        by_cases hq' : r' = nx
        · subst hq'
          rw [ext_same] at hg'
          cases hg'
          exact absurd hgg (hlt r _ hg)
        · rw [ext_other φ _ hq'] at hg'
          exact hw.inj r r' y y' g g' (back r y hr hq) (back r' y' hr' hq') hg hg' hgg
    · by_cases hq : r = nx
      · subst hq; rw [ext_same] at hg; cases hg; show w.heap.size < _; rw [hn.size]; omega
      · rw [ext_other φ _ hq] at hg; have := hw.lt r g hg; rw [hn.size]; omega
    · by_cases hq : r = nx
      · subst hq; rw [ext_same] at hg; cases hg; exact hw.bsz
      · rw [ext_other φ _ hq] at hg; exact hw.base r y g (back r y hr hq) hy hg
  · refine ⟨hm, hn.os, hn.tape, hn.out, by rw [hn.size]; omega, fun g hg _ => hn.old g hg, fun g hg ⟨r, y, g', h1, h2, h3, h4⟩ => ?_, fun r y hr hn' => ⟨fwd r y hr, by rw [ext_other φ _ (hne r (.inl (by rw [hr]; simp)))]; exact hn'⟩, by rw [hinc]; omega, fun r hr hl => ext_other φ _ (fun e => by subst e; omega), LK.same hn.old⟩
    by_cases hq : r = nx
    · subst hq; rw [ext_same] at h3; cases h3; simp only at h4; omega
    · rw [ext_other φ _ hq] at h3
      exact ⟨r, y, g', back r y h1 hq, h2, h3, h4⟩
theorem WR.put (hw : WR φ B h nx w) {r : Id} {x y : Blk} {g : Plc} {w' : World} {o : Obj} (hr : h.get r = some x) (hx : x.ro = false) (hy : y.ro = false) (hg : φ r = some g)
    (hos : w'.os = w.os) (htape : w'.tape = w.tape) (hout : w'.output = w.output) (hsz : w'.heap.size = w.heap.size) (hkeep : ∀ k, k ≠ g.1 → w'.heap[k]? = w.heap[k]?) (hat : w'.heap[g.1]? = some o) (ho : y.says φ g.2 o) (hlp : x.lp = false ∨ ∀ rec : Loop, w.heap[g.1]? = some (.loop rec) → ∃ rec' : Loop, o = .loop rec' ∧ rec'.tmps = rec.tmps ∧ rec'.params = rec.params ∧ rec'.assign = rec.assign ∧ rec'.body = rec.body := by exact Or.inl rfl) :
    WR φ B (h.set r y) nx w' ∧ Step φ h nx w φ (h.set r y) nx w' := by
  have hlk : LK w w' := by
    intro l rec e
    by_cases hl : l = g.1
    · subst hl
      rcases hlp with hlp | hlp
      · obtain ⟨o0, e0, h0⟩ := hw.blk r x g hr hg
        rw [e] at e0
        cases e0
        exact (Blk.says_not_loop hlp h0).elim
      · obtain ⟨rec', e1, h1⟩ := hlp rec e
        exact ⟨rec', by rw [hat, e1], h1⟩
    · exact ⟨rec, by rw [hkeep l hl]; exact e, rfl, rfl, rfl, rfl⟩
  have hrl := (hw.fresh r (.inl (by rw [hr]; simp))).1
  have back : ∀ q z, (h.set r y).get q = some z → q ≠ r → h.get q = some z := fun q z e hq => T4.get_of_set y r q h z e hq
  have same : (h.set r y).get r = some y := T4.get_set_same y r h
  have fwd : ∀ q z, h.get q = some z → q ≠ r → (h.set r y).get q = some z := fun q z e hq => by
    have hf := hw.fresh q (.inl (by rw [e]; simp))
    exact (T4.get_set_other y r q h (hrl.trans hf.1.symm) hq).trans e
  constructor
  · refine ⟨hw.len, fun q hq => hw.fresh q ?_, fun q z k hq hk => ?_, fun q q' z z' k k' hq hq' hk hk' hkk => ?_, fun q k hk => by rw [hsz]; exact hw.lt q k hk, fun q z k hq hz hk => ?_, by rw [hsz]; exact hw.bsz, hw.loops.mono (.refl _) hlk⟩
    · rcases hq with hq | hq
      · left
        by_cases e : q = r
        · subst e; rw [hr]; simp
        · cases e' : (h.set r y).get q with
          | none => exact absurd e' hq
          | some z => rw [back q z e' e]; simp
      · exact .inr hq
    · by_cases e : q = r
      · subst e
        rw [same] at hq
        rw [hg] at hk
        cases hq; cases hk
        exact ⟨o, hat, ho⟩
      · have hz := back q z hq e
        obtain ⟨o', h1, h2⟩ := hw.blk q z k hz hk
        exact ⟨o', (hkeep k.1 (fun ek => e (hw.inj q r z x _ _ hz hr hk hg ek))).trans h1, h2⟩
    · have hz : ∃ z0, h.get q = some z0 := by
        by_cases e : q = r
        · exact ⟨x, by rw [e]; exact hr⟩
        · exact ⟨z, back q z hq e⟩
      have hz' : ∃ z0, h.get q' = some z0 := by
        by_cases e : q' = r
        · exact ⟨x, by rw [e]; exact hr⟩
        · exact ⟨z', back q' z' hq' e⟩
      obtain ⟨z0, hz⟩ := hz
      obtain ⟨z0', hz'⟩ := hz'
      exact hw.inj q q' z0 z0' k k' hz hz' hk hk' hkk
    · by_cases e : q = r
      · subst e; exact hw.base q x k hr hx hk
      · exact hw.base q z k (back q z hq e) hz hk
  · refine ⟨.refl _, hos, htape, hout, by rw [hsz]; exact Nat.le_refl _, fun k hk hn => hkeep k (fun e => hn (by subst e; exact ⟨r, x, g, hr, hx, hg, rfl⟩)), fun k hk ⟨q, z, g', h1, h2, h3, h4⟩ => ?_, fun q z hq hn => ⟨fwd q z hq (fun e => by subst e; rw [hg] at hn; cases hn), hn⟩, Nat.le_refl _, fun _ _ _ => rfl, hlk⟩
    by_cases e : q = r
    · subst e; exact ⟨q, x, g', hr, hx, h3, h4⟩
    · exact ⟨q, z, g', back q z h1 e, h2, h3, h4⟩
end
end Go.Proofs.YtobaebpmdimljaaGreatDoor.Clo
end
section
namespace Go.Proofs.YtobaebpmdimljaaGreatDoor.Clo
open Go.RowKit
set_option linter.unusedVariables false
set_option linter.unusedSimpArgs false
def Runs {α : Type} (P : Program) (s : Sem α) (w : World) (Q : α → World → Prop) : Prop := ∃ a w', s.run P w = .ok a w' ∧ Q a w'
section
variable {α β : Type} {P : Program} {w : World}
theorem Runs.pure {a : α} {Q : α → World → Prop} (h : Q a w) : Runs P (Pure.pure a : Sem α) w Q := ⟨a, w, rfl, h⟩
theorem Runs.ret {a : α} {Q : α → World → Prop} (h : Q a w) : Runs P (Sem.pure a) w Q := ⟨a, w, rfl, h⟩
theorem Runs.bind {s : Sem α} {f : α → Sem β} {Q : β → World → Prop} (h : Runs P s w fun a w' => Runs P (f a) w' Q) : Runs P (s >>= f) w Q := by
  obtain ⟨a, w1, h1, b, w2, h2, h3⟩ := h
  refine ⟨b, w2, ?_, h3⟩
  rw [Sem.run_bind, h1]
  exact h2
theorem Runs.mono {s : Sem α} {Q R : α → World → Prop} (h : Runs P s w Q) (k : ∀ a w, Q a w → R a w) : Runs P s w R := by
  obtain ⟨a, w1, h1, h2⟩ := h
  exact ⟨a, w1, h1, k _ _ h2⟩
theorem Runs.of {s : Sem α} {a : α} {w' : World} {Q : α → World → Prop} (h : s.run P w = .ok a w') (k : Q a w') : Runs P s w Q := ⟨a, w', h, k⟩
theorem runs_underlying {t : TypeId} {d : TypeDesc} {Q : TypeDesc → World → Prop} (hd : P.underlying t = some d) (h : Q d w) : Runs P (underlying t) w Q := by
  refine ⟨d, w, ?_, h⟩
  unfold underlying
  rw [Sem.run_bind]
  show (match P.underlying t with | some d => Pure.pure d | none => stuck "no such type" : Sem TypeDesc).run P w = _
  rw [hd]
  rfl
theorem runs_typeInfo {t : TypeId} {d : TypeInfo} {Q : TypeInfo → World → Prop} (hd : P.info? t = some d) (h : Q d w) : Runs P (typeInfo t) w Q := by
  refine ⟨d, w, ?_, h⟩
  unfold typeInfo
  rw [Sem.run_bind]
  show (match P.info? t with | some d => Pure.pure d | none => stuck "no such type" : Sem TypeInfo).run P w = _
  rw [hd]
  rfl
theorem runs_sizeOf {t : TypeId} {d : TypeInfo} {Q : Nat → World → Prop} (hd : P.info? t = some d) (h : Q d.size w) : Runs P (sizeOf t) w Q := by
  unfold sizeOf
  exact .bind (runs_typeInfo hd (.pure h))
theorem runs_zero {t : TypeId} {d : TypeInfo} {v : Value} {Q : Value → World → Prop} (hd : P.info? t = some d) (hv : d.zero = some v) (h : Q v w) : Runs P (zeroValue t) w Q := by
  unfold zeroValue
  refine .bind (runs_typeInfo hd ?_)
  rw [hv]
  exact .pure h
def aggT (P : Program) (t : TypeId) : Option Bool := match P.underlying t with
  | some (.struct _) | some (.array _ _) => some true
  | some _ => some false
  | none => none
theorem runs_isAgg {t : TypeId} {b : Bool} {Q : Bool → World → Prop} (hd : aggT P t = some b) (h : Q b w) : Runs P (isAgg t) w Q := by
  unfold isAgg
  unfold aggT at hd
  cases hu : P.underlying t with
  | none => rw [hu] at hd; cases hd
  | some d =>
    rw [hu] at hd
    refine .bind (runs_underlying hu ?_)
    cases d <;> simp only [Option.some.injEq] at hd <;> subst hd <;> exact .pure h
theorem runs_load {a : Addr} {v : Value} {Q : Value → World → Prop} (hv : w.cell? a = some v) (h : Q v w) : Runs P (load a) w Q := by
  refine ⟨v, w, ?_, h⟩
  simp [load, Sem.run, hv]
end
def AV.len : AV → Nat
  | .cons _ r => r.len + 1
  | _ => 0
noncomputable def AV.at (n : Nat) : AV → AV :=
  Nat.rec (motive := fun _ => AV → AV) (fun l => match l with | .cons x _ => x | _ => .u) (fun _ ih l => match l with | .cons _ r => ih r | _ => .u) n
noncomputable def AV.drop (n : Nat) : AV → AV :=
  Nat.rec (motive := fun _ => AV → AV) (fun l => l) (fun _ ih l => match l with | .cons _ r => ih r | _ => .nil) n
noncomputable def AV.take (n : Nat) : AV → AV :=
  Nat.rec (motive := fun _ => AV → AV) (fun _ => .nil) (fun _ ih l => match l with | .cons x r => .cons x (ih r) | _ => .nil) n
noncomputable def AV.setAt (n : Nat) : AV → AV → AV :=
  Nat.rec (motive := fun _ => AV → AV → AV) (fun v l => match l with | .cons _ r => .cons v r | l => l) (fun _ ih v l => match l with | .cons x r => .cons x (ih v r) | l => l) n
def AV.app : AV → AV → AV
  | .cons x r, m => .cons x (r.app m)
  | _, m => m
section
variable {φ : Id → Option Plc}
theorem VL.nil : VL φ .nil [] := rfl
theorem VL.cons {x r : AV} {v : Value} {vs : List Value} (h : VR φ x v) (k : VL φ r vs) : VL φ (.cons x r) (v :: vs) := ⟨v, vs, rfl, h, k⟩
theorem VL.len : ∀ {x : AV} {l : List Value}, VL φ x l → l.length = x.len
  | .nil, l, h => by have : l = [] := h; subst this; rfl
  | .cons x r, l, ⟨v, vs, e, _, h⟩ => by subst e; simp [AV.len, VL.len h]
theorem VL.at : ∀ {x : AV} {l : List Value} (_ : VL φ x l) {i : Nat} {v : Value}, l[i]? = some v → VR φ (x.at i) v
  | .nil, l, h, i, v, hv => by have : l = [] := h; subst this; simp at hv
  | .cons x r, l, ⟨v0, vs, e, h1, h2⟩, 0, v, hv => by subst e; simp at hv; subst hv; exact h1
  | .cons x r, l, ⟨v0, vs, e, h1, h2⟩, i + 1, v, hv => by subst e; simp at hv; exact VL.at h2 hv
theorem VL.drop : ∀ (n : Nat) {x : AV} {l : List Value}, VL φ x l → VL φ (x.drop n) (l.drop n)
  | 0, x, l, h => h
  | n + 1, .nil, l, h => by have : l = [] := h; subst this; exact rfl
  | n + 1, .cons x r, l, ⟨v, vs, e, h1, h2⟩ => by subst e; exact VL.drop n h2
theorem VL.take : ∀ (n : Nat) {x : AV} {l : List Value}, VL φ x l → VL φ (x.take n) (l.take n)
  | 0, x, l, h => rfl
  | n + 1, .nil, l, h => by have : l = [] := h; subst this; exact rfl
  | n + 1, .cons x r, l, ⟨v, vs, e, h1, h2⟩ => by subst e; exact ⟨v, _, rfl, h1, VL.take n h2⟩
theorem VL.setAt : ∀ (n : Nat) {x y : AV} {l : List Value} {v : Value}, VL φ x l → VR φ y v → VL φ (AV.setAt n y x) (l.set n v)
  | n, .nil, y, l, v, h, k => by have : l = [] := h; subst this; cases n <;> exact rfl
  | 0, .cons x r, y, l, v, ⟨v0, vs, e, h1, h2⟩, k => by subst e; exact ⟨v, vs, rfl, k, h2⟩
  | n + 1, .cons x r, y, l, v, ⟨v0, vs, e, h1, h2⟩, k => by subst e; exact ⟨v0, _, rfl, h1, VL.setAt n h2 k⟩
theorem VL.app : ∀ {x y : AV} {l m : List Value}, VL φ x l → VL φ y m → VL φ (x.app y) (l ++ m)
  | .nil, y, l, m, h, k => by have : l = [] := h; subst this; exact k
  | .cons x r, y, l, m, ⟨v, vs, e, h1, h2⟩, k => by subst e; exact ⟨v, _, rfl, h1, VL.app h2 k⟩
end
end Go.Proofs.YtobaebpmdimljaaGreatDoor.Clo
end
section
namespace Go.Proofs.YtobaebpmdimljaaGreatDoor.Clo
open Go.RowKit
set_option linter.unusedVariables false
set_option linter.unusedSimpArgs false
theorem add_lit (g o n : Nat) : (⟨g, o, none⟩ : Addr).add n = ⟨g, o + n, none⟩ := by
  unfold Addr.add
  split <;> simp_all
section
variable {φ : Id → Option Plc} {h : Mem} {nx : Id} {w : World} {sts : List Site} {B : Bse sts} {P : Program}
theorem RW.row (hw : RW φ h w) {r : Id} {t : TypeId} {gr : Bool} {fz : Option Nat} {ro : Bool} {cells : AV} {g : Plc} (hr : h.get r = some (.row t gr fz ro cells)) (hg : φ r = some g) :
    ∃ (c : Array Value) (l rest : List Value) (m : Nat × Nat), w.heap[g.1]? = some (.cells c t m) ∧ c.toList = l ++ rest ∧ VL φ cells l ∧ (gr = false → rest = []) ∧ c.size = g.2 ∧ FzR fz m g.2 := by
  obtain ⟨o, h1, c, l, rest, m, h2, h3, h4, h5, h6⟩ := hw.blk r _ g hr hg
  exact ⟨c, l, rest, m, by rw [h1, h2], h3, h4, h5, h6⟩
theorem cell_row {c : Array Value} {l rest : List Value} {t : TypeId} {fr : Nat × Nat} {g i : Nat} {v : Value} (h1 : w.heap[g]? = some (.cells c t fr)) (h2 : c.toList = l ++ rest) (hv : l[i]? = some v) : w.cell? ⟨g, i, none⟩ = some v := by
  rw [cell_of_row w g i c t fr h1, ← Array.getElem?_toList, h2, List.getElem?_append_left (List.getElem?_eq_some_iff.1 hv).1]
  exact hv
theorem RW.cell (hw : RW φ h w) {r : Id} {t : TypeId} {gr : Bool} {fz : Option Nat} {ro : Bool} {cells : AV} {g : Plc} {i : Nat} (hr : h.get r = some (.row t gr fz ro cells)) (hg : φ r = some g) (hi : i < cells.len) :
    ∃ v, w.cell? ⟨g.1, i, none⟩ = some v ∧ VR φ (cells.at i) v := by
  obtain ⟨c, l, rest, m, h1, h2, h3, _⟩ := hw.row hr hg
  have hl := VL.len h3
  have hv : l[i]? = some (l[i]'(by omega)) := List.getElem?_eq_getElem (by omega)
  exact ⟨_, cell_row h1 h2 hv, VL.at h3 hv⟩
theorem RW.cells (hw : RW φ h w) {r : Id} {t : TypeId} {gr : Bool} {fz : Option Nat} {ro : Bool} {cells : AV} {g : Plc} {o n : Nat} (hr : h.get r = some (.row t gr fz ro cells)) (hg : φ r = some g) (hn : o + n ≤ cells.len) :
    ∃ vs : List Value, (loadCells ⟨g.1, o, none⟩ n).run P w = .ok vs.toArray w ∧ VL φ ((cells.drop o).take n) vs ∧ vs.length = n ∧ ∀ j v, vs[j]? = some v → w.cell? ⟨g.1, o + j, none⟩ = some v := by
  obtain ⟨c, l, rest, m, h1, h2, h3, _⟩ := hw.row hr hg
  have hl := VL.len h3
  have hlen : ((l.drop o).take n).length = n := by rw [List.length_take, List.length_drop]; omega
  have hat : ∀ j v, ((l.drop o).take n)[j]? = some v → w.cell? ⟨g.1, o + j, none⟩ = some v := fun j v hv => by
    refine cell_row h1 h2 ?_
    rw [List.getElem?_take] at hv
    split at hv
    · rw [List.getElem?_drop] at hv; exact hv
    · cases hv
  refine ⟨(l.drop o).take n, ?_, VL.take n (VL.drop o h3), hlen, hat⟩
  have := run_loadCells_list (P := P) (w := w) ⟨g.1, o, none⟩ ((l.drop o).take n) (fun j v hv => by rw [add_lit]; exact hat j v hv)
  rw [hlen] at this
  exact this
noncomputable def AV.setMany0 : AV → Nat → AV → AV
  | .cons y r, o, x => r.setMany0 (o + 1) (AV.setAt o y x)
  | _, _, x => x
noncomputable def AV.setMany (y : AV) (o : Nat) (x : AV) : AV :=
  Bool.rec (motive := fun _ => AV) (y.setMany0 o x) (Bool.rec (motive := fun _ => AV) (y.setMany0 o x) y (Nat.beq y.len x.len)) (Nat.beq o 0)
def setManyA : List Value → Nat → Array Value → Array Value
  | [], _, c => c
  | v :: r, o, c => setManyA r (o + 1) (c.setIfInBounds o v)
theorem setCell_row (w : World) (g o : Nat) (c : Array Value) (t : TypeId) (fr : Nat × Nat) (v : Value) (h : w.heap[g]? = some (.cells c t fr)) : (w.setCell ⟨g, o, none⟩ v).heap[g]? = some (.cells (c.setIfInBounds o v) t fr) := by
  simp [World.setCell, Array.getElem?_modify, h]
theorem setCells_row (g : Nat) (t : TypeId) (fr : Nat × Nat) : ∀ (vs : List Value) (o : Nat) (w : World) (c : Array Value), w.heap[g]? = some (.cells c t fr) → (w.setCells g o vs).heap[g]? = some (.cells (setManyA vs o c) t fr)
  | [], _, _, _, h => h
  | v :: r, o, w, c, h => setCells_row g t fr r (o + 1) _ _ (setCell_row w g o c t fr v h)
theorem setCells_other (g : Nat) : ∀ (vs : List Value) (o : Nat) (w : World) (k : Nat), k ≠ g → (w.setCells g o vs).heap[k]? = w.heap[k]?
  | [], _, _, _, _ => rfl
  | v :: r, o, w, k, h => (setCells_other g r (o + 1) _ k h).trans (heap_setCell_other w _ k _ h)
theorem setCells_meta (g : Nat) : ∀ (vs : List Value) (o : Nat) (w : World), (w.setCells g o vs).os = w.os ∧ (w.setCells g o vs).tape = w.tape ∧ (w.setCells g o vs).output = w.output ∧ (w.setCells g o vs).heap.size = w.heap.size
  | [], _, _ => ⟨rfl, rfl, rfl, rfl⟩
  | v :: r, o, w => by
    obtain ⟨h1, h2, h3, h4⟩ := setCells_meta g r (o + 1) (w.setCell ⟨g, o, none⟩ v)
    exact ⟨h1, h2, h3, h4.trans (by simp [World.setCell])⟩
theorem setManyA_size : ∀ (vs : List Value) (o : Nat) (c : Array Value), (setManyA vs o c).size = c.size
  | [], _, _ => rfl
  | v :: r, o, c => (setManyA_size r (o + 1) _).trans (by simp)
theorem VL.setMany0 : ∀ {y x : AV} {vs l rest : List Value} {o : Nat} {c : Array Value}, VL φ y vs → VL φ x l → c.toList = l ++ rest → o + vs.length ≤ l.length →
    ∃ l', (setManyA vs o c).toList = l' ++ rest ∧ VL φ (y.setMany0 o x) l'
  | .nil, x, vs, l, rest, o, c, h, k, e, hl => by have : vs = [] := h; subst this; exact ⟨l, e, k⟩
  | .cons y r, x, vs, l, rest, o, c, ⟨v, vs', e', h1, h2⟩, k, e, hl => by
    subst e'
    simp only [List.length_cons] at hl
    have e2 : (c.setIfInBounds o v).toList = l.set o v ++ rest := by rw [Array.toList_setIfInBounds, e, List.set_append_left _ _ (by omega)]
    have := VL.setMany0 h2 (VL.setAt o k h1) e2 (o := o + 1) (by rw [List.length_set]; omega)
    exact this
theorem setManyA_all : ∀ (vs : List Value) (o : Nat) (c : Array Value) (a l rest : List Value), c.toList = a ++ (l ++ rest) → a.length = o → vs.length = l.length → (setManyA vs o c).toList = a ++ (vs ++ rest)
  | [], o, c, a, l, rest, h, ha, hl => by
    have : l = [] := List.length_eq_zero_iff.1 hl.symm
    subst this
    exact h
  | v :: r, o, c, a, l, rest, h, ha, hl => by
    cases l with
    | nil => cases hl
    | cons y l =>
    have e : (c.setIfInBounds o v).toList = (a ++ [v]) ++ (l ++ rest) := by
      rw [Array.toList_setIfInBounds, h, ← ha, List.set_append_right _ _ (Nat.le_refl _)]
      simp
    have := setManyA_all r (o + 1) (c.setIfInBounds o v) (a ++ [v]) l rest e (by simp [ha]) (by simpa using hl)
    simpa [setManyA] using this
theorem VL.setMany {y x : AV} {vs l rest : List Value} {o : Nat} {c : Array Value} (h : VL φ y vs) (k : VL φ x l) (e : c.toList = l ++ rest) (hl : o + vs.length ≤ l.length) :
    ∃ l', (setManyA vs o c).toList = l' ++ rest ∧ VL φ (y.setMany o x) l' := by
  have slow := VL.setMany0 h k e hl
  unfold AV.setMany
  cases h1 : Nat.beq o 0 with
  | false => exact slow
  | true =>
    cases h2 : Nat.beq y.len x.len with
    | false => exact slow
    | true =>
      have h1' := Nat.eq_of_beq_eq_true h1
      have h2' := Nat.eq_of_beq_eq_true h2
      subst h1'
      have hv := VL.len h
      have hx := VL.len k
      exact ⟨vs, setManyA_all vs 0 c [] l rest e rfl (by omega), h⟩
def okF (fz : Option Nat) (q : Nat) : Bool := match fz with
  | some z => Nat.ble z q
  | none => false
theorem okF_not {fz : Option Nat} {q i K : Nat} {m : Nat × Nat} (h : okF fz q = true) (hm : FzR fz m K) (hi : i < K) (hq : q ≤ i) : ¬ (m.1 ≤ i ∧ i < m.2) := by
  intro ⟨h1, h2⟩
  cases fz with
  | none => cases h
  | some z =>
    have := hm i hi h1 h2
    have hz : z ≤ q := Nat.le_of_ble_eq_true h
    omega
theorem WR.store (hw : WR φ B h nx w) {r : Id} {t : TypeId} {gr : Bool} {fz : Option Nat} {cells : AV} {g : Plc} {o : Nat} (hr : h.get r = some (.row t gr fz false cells)) (hg : φ r = some g) {y : AV} {vs : List Value} (hy : VL φ y vs) (hn : o + vs.length ≤ cells.len) (hf : okF fz o = true) (h1 : ∀ v ∈ vs, v.oneCell' = true) :
    (storeCells ⟨g.1, o, none⟩ vs).run P w = .ok () (w.setCells g.1 o vs) ∧ WR φ B (h.set r (.row t gr fz false (y.setMany o cells))) nx (w.setCells g.1 o vs) ∧ Step φ h nx w φ (h.set r (.row t gr fz false (y.setMany o cells))) nx (w.setCells g.1 o vs) := by
  obtain ⟨c, l, rest, m, e1, e2, e3, e4, e7, e8⟩ := hw.rw.row hr hg
  have hl := VL.len e3
  obtain ⟨l', e5, e6⟩ := VL.setMany hy e3 e2 (o := o) (by omega)
  obtain ⟨m1, m2, m3, m4⟩ := setCells_meta g.1 vs o w
  refine ⟨?_, hw.put hr rfl rfl hg m1 m2 m3 m4 (fun k hk => setCells_other g.1 vs o w k hk) (setCells_row g.1 t m vs o w c e1) ⟨_, l', rest, m, rfl, e5, e6, e4, by rw [setManyA_size]; exact e7, e8⟩⟩
  have hst := run_storeCells_cells (P := P) g.1 o vs 0 w (fun j hj => ?_) (fun j hj => ?_) h1
  · simpa using hst
  · have hv : l[o + j]? = some (l[o + j]'(by omega)) := List.getElem?_eq_getElem (by omega)
    rw [Nat.add_zero, cell_row e1 e2 hv]; rfl
  · have hlt : o + j < g.2 := by rw [← e7, ← Array.length_toList, e2, List.length_append]; omega
    have hno := okF_not (i := o + j) hf e8 hlt (by omega)
    unfold World.frozen?
    rw [e1]
    simp only [Nat.add_zero, Bool.and_eq_false_iff, decide_eq_false_iff_not]
    by_cases h1 : m.1 ≤ o + j
    · exact .inr fun h2 => hno ⟨h1, h2⟩
    · exact .inl h1
end
end Go.Proofs.YtobaebpmdimljaaGreatDoor.Clo
end
