/- Part 3 of a proof laid in parts, one behind the other; no condition of its own. -/
import Derived.Tactics
import Derived.Below
import Derived.KernelRfl
set_option linter.all false
section
namespace Go.Proofs.YtknjkljigmepjaaGreatDoor.Clo
set_option linter.unusedVariables false
set_option linter.unusedSimpArgs false
inductive D4 | a | b | c | d
  deriving DecidableEq
abbrev Id := List D4
inductive AV where
  | u
  | nil
  | cons (x r : AV)
  | inil
  | ifc (t : TypeId) (x : AV)
  | fnil
  | fn (f : Fn) (first cap : AV)
  | mn
  | mp (r : Id)
  | tu (l : AV)
  | ag (l : AV)
  | sn
  | sl (r : Id) (o n : Nat) (c : Option Nat)
  | sg (r : Id) (o n z : Nat)
  | se (r : Id) (o z : Nat)
  | yd (r : Id)
  | ch (r : Id)
  | pn
  | p (r : Id) (o : Nat)
  | s (l : List Nat)
  | b (x : Bool)
  | i (k : IntKind) (n : Int)
  deriving Inhabited
abbrev Plc := Nat × Nat × Nat
def bytesOf (l : List Nat) : ByteArray := ⟨(l.map UInt8.ofNat).toArray⟩
def AV.says (φ : Id → Option Plc) : AV → (Value → Prop) × (List Value → Prop)
  | .u => (fun _ => True, fun _ => False)
  | .nil => (fun _ => False, fun l => l = [])
  | .cons x r => (fun _ => False, fun l => ∃ v vs, l = v :: vs ∧ (x.says φ).1 v ∧ (r.says φ).2 vs)
  | .inil => (fun v => v = .nilIface, fun _ => False)
  | .ifc t x => (fun v => ∃ w, v = .iface t w ∧ (x.says φ).1 w, fun _ => False)
  | .fnil => (fun v => v = .nilFunc, fun _ => False)
  | .fn f a c => (fun v => ∃ xs ys : Array Value, v = .func f xs ys ∧ (a.says φ).2 xs.toList ∧ (c.says φ).2 ys.toList, fun _ => False)
  | .mn => (fun v => v = .map none, fun _ => False)
  | .mp r => (fun v => ∃ g, φ r = some g ∧ v = .map (some g.1), fun _ => False)
  | .tu l => (fun v => ∃ xs : Array Value, v = .tuple xs ∧ (l.says φ).2 xs.toList, fun _ => False)
  | .ag l => (fun v => ∃ xs : Array Value, v = .agg xs ∧ (l.says φ).2 xs.toList, fun _ => False)
  | .sn => (fun v => v = .slice none 0 0, fun _ => False)
  | .sl r o n c => (fun v => ∃ g k, φ r = some g ∧ v = .slice (some ⟨g.1, g.2.2 + o, none⟩) n k ∧ n ≤ k ∧ (∀ m, c = some m → k = m), fun _ => False)
  | .sg r o n z => (fun v => ∃ g k, φ r = some g ∧ v = .slice (some ⟨g.1, g.2.2 + o, none⟩) n k ∧ n ≤ k ∧ g.2.2 + o + k * z = g.2.1, fun _ => False)
  | .se r q z => (fun v => ∃ g o k, φ r = some g ∧ v = .slice (some ⟨g.1, o, none⟩) 0 k ∧ (z = 0 ∨ k = 0 ∨ (o = g.2.2 + q ∧ o + k * z = g.2.1)), fun _ => False)
  | .yd r => (fun v => ∃ g, φ r = some g ∧ v = .func (.yield g.1) #[] #[], fun _ => False)
  | .ch r => (fun v => ∃ g, φ r = some g ∧ v = .chan (some g.1), fun _ => False)
  | .pn => (fun v => v = .pointer none, fun _ => False)
  | .p r o => (fun v => ∃ g, φ r = some g ∧ v = .pointer (some ⟨g.1, g.2.2 + o, none⟩), fun _ => False)
  | .s l => (fun v => v = .string (bytesOf l) ∧ ∀ x ∈ l, x < 256, fun _ => False)
  | .b x => (fun v => v = .bool x, fun _ => False)
  | .i k n => (fun v => v = .int k n, fun _ => False)
abbrev VR (φ : Id → Option Plc) (x : AV) (v : Value) : Prop := (x.says φ).1 v
abbrev VL (φ : Id → Option Plc) (x : AV) (l : List Value) : Prop := (x.says φ).2 l
def More (φ ψ : Id → Option Plc) : Prop := ∀ r g, φ r = some g → ψ r = some g
theorem More.refl (φ : Id → Option Plc) : More φ φ := fun _ _ h => h
theorem More.trans {φ ψ χ : Id → Option Plc} (h : More φ ψ) (k : More ψ χ) : More φ χ := fun r g e => k r g (h r g e)
theorem says_more {φ ψ : Id → Option Plc} (h : More φ ψ) : ∀ x : AV, (∀ v, VR φ x v → VR ψ x v) ∧ (∀ l, VL φ x l → VL ψ x l) := by
  intro x
  induction x with
  | u => exact ⟨fun _ h => h, fun _ h => h⟩
  | nil => exact ⟨fun _ h => h, fun _ h => h⟩
  | cons x r hx hr => exact ⟨fun _ h => h, fun l ⟨v, vs, e, h1, h2⟩ => ⟨v, vs, e, hx.1 v h1, hr.2 vs h2⟩⟩
  | inil => exact ⟨fun _ h => h, fun _ h => h⟩
  | ifc t x hx => exact ⟨fun v ⟨w, e, h1⟩ => ⟨w, e, hx.1 w h1⟩, fun _ h => h⟩
  | fnil => exact ⟨fun _ h => h, fun _ h => h⟩
  | fn f a c ha hc => exact ⟨fun v ⟨xs, ys, e, h1, h2⟩ => ⟨xs, ys, e, ha.2 _ h1, hc.2 _ h2⟩, fun _ h => h⟩
  | mn => exact ⟨fun _ h => h, fun _ h => h⟩
  | mp r => exact ⟨fun v ⟨g, h1, e⟩ => ⟨g, h r g h1, e⟩, fun _ h => h⟩
  | tu l hl => exact ⟨fun v ⟨xs, e, h1⟩ => ⟨xs, e, hl.2 _ h1⟩, fun _ h => h⟩
  | ag l hl => exact ⟨fun v ⟨xs, e, h1⟩ => ⟨xs, e, hl.2 _ h1⟩, fun _ h => h⟩
  | sn => exact ⟨fun _ h => h, fun _ h => h⟩
  | sl r o n c => exact ⟨fun v ⟨g, k, h1, e⟩ => ⟨g, k, h r g h1, e⟩, fun _ h => h⟩
  | sg r o n z => exact ⟨fun v ⟨g, k, h1, e⟩ => ⟨g, k, h r g h1, e⟩, fun _ h => h⟩
  | se r q z => exact ⟨fun v ⟨g, o, k, h1, e⟩ => ⟨g, o, k, h r g h1, e⟩, fun _ h => h⟩
  | yd r => exact ⟨fun v ⟨g, h1, e⟩ => ⟨g, h r g h1, e⟩, fun _ h => h⟩
  | ch r => exact ⟨fun v ⟨g, h1, e⟩ => ⟨g, h r g h1, e⟩, fun _ h => h⟩
  | pn => exact ⟨fun _ h => h, fun _ h => h⟩
  | p r o => exact ⟨fun v ⟨g, h1, e⟩ => ⟨g, h r g h1, e⟩, fun _ h => h⟩
  | s l => exact ⟨fun _ h => h, fun _ h => h⟩
  | b x => exact ⟨fun _ h => h, fun _ h => h⟩
  | i k n => exact ⟨fun _ h => h, fun _ h => h⟩
theorem VR.more {φ ψ : Id → Option Plc} {x : AV} {v : Value} (h : VR φ x v) (k : More φ ψ) : VR ψ x v := (says_more k x).1 v h
theorem VL.more {φ ψ : Id → Option Plc} {x : AV} {l : List Value} (h : VL φ x l) (k : More φ ψ) : VL ψ x l := (says_more k x).2 l h
inductive T4 (α : Type) where
  | e
  | l (v : α)
  | n (a b c d : T4 α)
section
variable {α : Type}
noncomputable def T4.get (p : Id) : T4 α → Option α :=
  List.rec (motive := fun _ => T4 α → Option α) (fun t => T4.rec (motive := fun _ => Option α) none (fun v => some v) (fun _ _ _ _ _ _ _ _ => none) t)
    (fun q _ ih t => T4.rec (motive := fun _ => Option α) none (fun _ => none) (fun a b c d _ _ _ _ => ih (D4.rec a b c d q)) t) p
noncomputable def T4.set (p : Id) : α → T4 α → T4 α :=
  List.rec (motive := fun _ => α → T4 α → T4 α) (fun v _ => .l v)
    (fun q _ ih v t => T4.rec (motive := fun _ => T4 α) (D4.rec (.n (ih v .e) .e .e .e) (.n .e (ih v .e) .e .e) (.n .e .e (ih v .e) .e) (.n .e .e .e (ih v .e)) q)
      (fun _ => D4.rec (.n (ih v .e) .e .e .e) (.n .e (ih v .e) .e .e) (.n .e .e (ih v .e) .e) (.n .e .e .e (ih v .e)) q)
      (fun a b c d _ _ _ _ => D4.rec (.n (ih v a) b c d) (.n a (ih v b) c d) (.n a b (ih v c) d) (.n a b c (ih v d)) q) t) p
noncomputable def T4.del (p : Id) : T4 α → T4 α :=
  List.rec (motive := fun _ => T4 α → T4 α) (fun _ => .e)
    (fun q _ ih t => T4.rec (motive := fun _ => T4 α) .e (fun _ => .e) (fun a b c d _ _ _ _ => D4.rec (.n (ih a) b c d) (.n a (ih b) c d) (.n a b (ih c) d) (.n a b c (ih d)) q) t) p
theorem T4.get_e : ∀ p : Id, (T4.e : T4 α).get p = none
  | [] => rfl
  | _ :: _ => rfl
theorem T4.get_set_same (v : α) : ∀ (p : Id) (t : T4 α), (t.set p v).get p = some v
  | [], t => rfl
  | q :: p, t => by cases t <;> cases q <;> exact T4.get_set_same v p _
theorem T4.get_set_other (v : α) : ∀ (p p' : Id) (t : T4 α), p.length = p'.length → p' ≠ p → (t.set p v).get p' = t.get p'
  | [], [], t, _, h => absurd rfl h
  | q :: p, q' :: p', t, hl, h => by
    have hl' : p.length = p'.length := by simpa using hl
    by_cases hq : q' = q
    · subst hq
      have hp : p' ≠ p := fun e => h (by rw [e])
      cases t <;> cases q' <;> first | exact (T4.get_set_other v p p' _ hl' hp).trans (T4.get_e p') | exact T4.get_set_other v p p' _ hl' hp
    · cases t <;> cases q <;> cases q' <;> first | exact absurd rfl hq | exact T4.get_e p' | rfl
theorem T4.get_del_other : ∀ (p p' : Id) (t : T4 α), p.length = p'.length → p' ≠ p → (t.del p).get p' = t.get p'
  | [], [], t, _, h => absurd rfl h
  | q :: p, q' :: p', t, hl, h => by
    have hl' : p.length = p'.length := by simpa using hl
    by_cases hq : q' = q
    · subst hq
      have hp : p' ≠ p := fun e => h (by rw [e])
      cases t <;> cases q' <;> first | rfl | exact T4.get_del_other p p' _ hl' hp
    · cases t <;> cases q <;> cases q' <;> first | exact absurd rfl hq | rfl
end
section
variable {α : Type}
theorem T4.get_of_set (v : α) : ∀ (p r : Id) (t : T4 α) (y : α), (t.set p v).get r = some y → r ≠ p → t.get r = some y
  | [], [], t, y, _, h => absurd rfl h
  | [], _ :: _, t, y, he, _ => by cases he
  | q :: p, [], t, y, he, _ => by cases t <;> cases q <;> cases he
  | q :: p, q' :: r, t, y, he, h => by
    by_cases hq : q' = q
    · subst hq
      have hp : r ≠ p := fun e' => h (by rw [e'])
      cases t <;> cases q' <;> first | exact T4.get_of_set v p r _ y he hp | (have := T4.get_of_set v p r _ y he hp; rw [T4.get_e] at this; cases this)
    · cases t <;> cases q <;> cases q' <;> first | exact absurd rfl hq | exact he | (have e' := (T4.get_e r).symm.trans he; cases e')
theorem T4.get_of_del : ∀ (p r : Id) (t : T4 α) (y : α), (t.del p).get r = some y → t.get r = some y ∧ r ≠ p
  | [], r, t, y, he => by
    have e' := (T4.get_e r).symm.trans he
    cases e'
  | q :: p, [], t, y, he => by cases t <;> cases q <;> cases he
  | q :: p, q' :: r, t, y, he => by
    by_cases hq : q' = q
    · subst hq
      cases t <;> cases q' <;> first | (cases he; done) | (obtain ⟨h1, h2⟩ := T4.get_of_del p r _ y he; exact ⟨h1, fun e' => h2 (by cases e'; rfl)⟩)
    · refine ⟨?_, fun e' => hq (by cases e'; rfl)⟩
      cases t <;> cases q <;> cases q' <;> first | exact absurd rfl hq | exact he | (cases he; done)
end
def dig (k : Nat) : D4 := match k % 4 with | 0 => .a | 1 => .b | 2 => .c | _ => .d
def path : Nat → Nat → Id
  | 0, _ => []
  | f + 1, k => dig k :: path f (k / 4)
theorem path_len : ∀ f k, (path f k).length = f
  | 0, _ => rfl
  | f + 1, k => by simp [path, path_len f]
theorem dig_inj {j k : Nat} (h : dig j = dig k) : j % 4 = k % 4 := by
  unfold dig at h
  have hj : j % 4 < 4 := Nat.mod_lt _ (by decide)
  have hk : k % 4 < 4 := Nat.mod_lt _ (by decide)
  generalize j % 4 = x at *
  generalize k % 4 = y at *
  match x, hj, y, hk with
  | 0, _, 0, _ | 1, _, 1, _ | 2, _, 2, _ | 3, _, 3, _ => rfl
  | 0, _, 1, _ | 0, _, 2, _ | 0, _, 3, _ | 1, _, 0, _ | 1, _, 2, _ | 1, _, 3, _ | 2, _, 0, _ | 2, _, 1, _ | 2, _, 3, _ | 3, _, 0, _ | 3, _, 1, _ | 3, _, 2, _ => cases h
theorem path_inj : ∀ (f j k : Nat), j < 4 ^ f → k < 4 ^ f → path f j = path f k → j = k
  | 0, j, k, hj, hk, _ => by simp at hj hk; omega
  | f + 1, j, k, hj, hk, h => by
    simp only [path, List.cons.injEq] at h
    have h1 := dig_inj h.1
    have e : 4 ^ (f + 1) = 4 * 4 ^ f := by rw [Nat.pow_succ, Nat.mul_comm]
    have h2 := path_inj f (j / 4) (k / 4) (by omega) (by omega) h.2
    omega
def inc : Id → Id
  | [] => []
  | .a :: r => .b :: r
  | .b :: r => .c :: r
  | .c :: r => .d :: r
  | .d :: r => .a :: inc r
def num : Id → Nat
  | [] => 0
  | .a :: r => 4 * num r
  | .b :: r => 4 * num r + 1
  | .c :: r => 4 * num r + 2
  | .d :: r => 4 * num r + 3
theorem num_inj : ∀ (p q : Id), p.length = q.length → num p = num q → p = q
  | [], [], _, _ => rfl
  | x :: p, y :: q, hl, h => by
    have hl' : p.length = q.length := by simpa using hl
    cases x <;> cases y <;> simp only [num] at h <;> first | (rw [num_inj p q hl' (by omega)]; done) | omega
theorem inc_len : ∀ p : Id, (inc p).length = p.length
  | [] => rfl
  | x :: p => by cases x <;> simp [inc, inc_len p]
def last : Id → Bool
  | [] => true
  | .d :: r => last r
  | _ => false
theorem inc_num : ∀ p : Id, last p = false → num (inc p) = num p + 1
  | [], h => by cases h
  | x :: p, h => by
    cases x <;> simp only [inc, num] <;> try omega
    have := inc_num p (by simpa [last] using h)
    omega
end Go.Proofs.YtknjkljigmepjaaGreatDoor.Clo
end
