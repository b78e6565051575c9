/- Part 15 of a proof laid in parts, one behind the other; no condition of its own. -/
import Derived.Test.YtknjkljigmepjaaGreatDoorZ10
set_option linter.all false
section
namespace Go.Proofs.YtknjkljigmepjaaGreatDoor.Clo
open Go.RowKit
set_option linter.unusedVariables false
set_option linter.unusedSimpArgs false
set_option linter.constructorNameAsVariable false
variable [Tabs]
abbrev Cut := Id × Nat × TypeId × AV
noncomputable def AV.plainR (x : AV) : Bool := AV.rec (motive := fun _ => Bool) (false) (true) (fun a0 a1 h0 h1 => Bool.rec (motive := fun _ => Bool) false h1 h0) (true) (fun a0 a1 h1 => false) (true) (fun a0 a1 a2 h1 h2 => false) (true) (fun a0 => false) (fun a0 h0 => h0) (fun a0 h0 => h0) (true) (fun a0 a1 a2 a3 => false) (fun a0 a1 a2 a3 => false) (fun a0 a1 a2 => false) (fun a0 => false) (fun a0 => false) (true) (fun a0 a1 => false) (fun a0 => true) (fun a0 => true) (fun a0 a1 => true) x
theorem plainR_eq : ∀ x : AV, x.plainR = x.plain := by
  intro x
  induction x with
  | cons x r hx hr =>
    show (Bool.rec (motive := fun _ => Bool) false r.plainR x.plainR : Bool) = (x.plain && r.plain)
    rw [hx, hr]
    cases x.plain <;> rfl
  | tu l h => exact h
  | ag l h => exact h
  | _ => rfl
noncomputable def eqR (x : AV) : AV → Bool := AV.rec (motive := fun _ => AV → Bool) (fun y => eqA (.u) y) (fun y => match y with | .nil => true | _ => false) (fun a0 a1 h0 h1 y => match y with | .cons b0 b1 => Bool.rec (motive := fun _ => Bool) false (h1 b1) (h0 b0) | _ => false) (fun y => match y with | .inil => true | _ => false) (fun a0 a1 h1 y => eqA (.ifc a0 a1) y) (fun y => match y with | .fnil => true | _ => false) (fun a0 a1 a2 h1 h2 y => eqA (.fn a0 a1 a2) y) (fun y => match y with | .mn => true | _ => false) (fun a0 y => eqA (.mp a0) y) (fun a0 h0 y => match y with | .tu b0 => h0 b0 | _ => false) (fun a0 h0 y => match y with | .ag b0 => h0 b0 | _ => false) (fun y => match y with | .sn => true | _ => false) (fun a0 a1 a2 a3 y => eqA (.sl a0 a1 a2 a3) y) (fun a0 a1 a2 a3 y => eqA (.sg a0 a1 a2 a3) y) (fun a0 a1 a2 y => eqA (.se a0 a1 a2) y) (fun a0 y => eqA (.yd a0) y) (fun a0 y => eqA (.ch a0) y) (fun y => match y with | .pn => true | _ => false) (fun a0 a1 y => eqA (.p a0 a1) y) (fun a0 y => match y with | .s b0 => listSame a0 b0 | _ => false) (fun a0 y => match y with | .b b0 => a0 == b0 | _ => false) (fun a0 a1 y => match y with | .i b0 b1 => Bool.rec (motive := fun _ => Bool) false (decide (a0 = b0)) (eqI a1 b1) | _ => false) x
theorem eqR_eq : ∀ {x y : AV}, eqR x y = true → x = y := by
  intro x
  induction x with
  | cons x r ihx ihr =>
    intro y h
    cases y <;> first | cases h | skip
    obtain ⟨h1, h2⟩ := and_rec h
    rw [ihx h1, ihr h2]
  | tu l ih =>
    intro y h
    cases y <;> first | cases h | skip
    rw [ih h]
  | ag l ih =>
    intro y h
    cases y <;> first | cases h | skip
    rw [ih h]
  | s l =>
    intro y h
    cases y <;> first | cases h | skip
    rw [listSame_eq h]
  | b x =>
    intro y h
    cases y <;> first | cases h | skip
    rw [eq_of_beq h]
  | i k n =>
    intro y h
    cases y <;> first | cases h | skip
    obtain ⟨h1, h2⟩ := and_rec h
    rw [of_decide_eq_true h2, eq_of_beq ((eqI_eq _ _).symm.trans h1)]
  | _ =>
    intro y h
    first | exact eqA_eq h | (cases y <;> first | rfl | cases h)
noncomputable def frzS (m : Mem) (G : Nat) (r : Id) (q : Nat) (acc : List Cut) : Option (Id × List Cut) := match m.get r with
  | some (.row t _ _ _ cells) => match Nat.ble q cells.len && ((cells.drop q).plainR && !(acc.any fun c => eqA.listEqId r c.1)) with
    | true => some (path DB (G + acc.length), acc ++ [(r, q, t, cells.drop q)])
    | false => none
  | _ => none
noncomputable def frz (m : Mem) (G : Nat) : AV → List Cut → Option (AV × List Cut)
  | .sl r q n c, acc => match frzS m G r q acc with
    | some (i, a) => some (.sl i 0 n c, a)
    | none => none
  | .sg r q n z, acc => match frzS m G r q acc with
    | some (i, a) => some (.sg i 0 n z, a)
    | none => none
  | .se r q z, acc => match frzS m G r q acc with
    | some (i, a) => some (.se i 0 z, a)
    | none => none
  | .cons x y, acc => match frz m G x acc with
    | some (x', a) => (match frz m G y a with
      | some (y', b) => some (.cons x' y', b)
      | none => none)
    | none => none
  | .ag l, acc => match frz m G l acc with
    | some (l', a) => some (.ag l', a)
    | none => none
  | .tu l, acc => match frz m G l acc with
    | some (l', a) => some (.tu l', a)
    | none => none
  | x, acc => match x.plain with
    | true => some (x, acc)
    | false => none
noncomputable def frzR (m : Mem) (G : Nat) (x : AV) : List Cut → Option (AV × List Cut) := AV.rec (motive := fun _ => List Cut → Option (AV × List Cut)) (fun k => none) (fun k => some (.nil, k)) (fun a0 a1 h0 h1 k => match h0 k with | some (x, k) => (match h1 k with | some (y, k) => some (.cons x y, k) | none => none) | none => none) (fun k => some (.inil, k)) (fun a0 a1 h1 k => none) (fun k => some (.fnil, k)) (fun a0 a1 a2 h1 h2 k => none) (fun k => some (.mn, k)) (fun a0 k => none) (fun a0 h0 k => match h0 k with | some (x, k) => some (.tu x, k) | none => none) (fun a0 h0 k => match h0 k with | some (x, k) => some (.ag x, k) | none => none) (fun k => some (.sn, k)) (fun a0 a1 a2 a3 k => match frzS m G a0 a1 k with | some (i, k) => some (.sl i 0 a2 a3, k) | none => none) (fun a0 a1 a2 a3 k => match frzS m G a0 a1 k with | some (i, k) => some (.sg i 0 a2 a3, k) | none => none) (fun a0 a1 a2 k => match frzS m G a0 a1 k with | some (i, k) => some (.se i 0 a2, k) | none => none) (fun a0 k => none) (fun a0 k => none) (fun k => some (.pn, k)) (fun a0 a1 k => none) (fun a0 k => some (.s a0, k)) (fun a0 k => some (.b a0, k)) (fun a0 a1 k => some (.i a0 a1, k)) x
theorem frzR_eq (m : Mem) (G : Nat) : ∀ (x : AV) (k : List Cut), frzR m G x k = frz m G x k := by
  intro x
  induction x with
  | cons x y hx hy =>
    intro k
    show (match frzR m G x k with | some (x, k) => (match frzR m G y k with | some (y, k) => some (AV.cons x y, k) | none => none) | none => none) = frz m G (.cons x y) k
    rw [hx k]
    simp only [frz]
    cases frz m G x k with
    | none => rfl
    | some p =>
      show (match frzR m G y p.2 with | some (y, k) => some (AV.cons p.1 y, k) | none => none) = _
      rw [hy]
  | tu l h =>
    intro k
    show (match frzR m G l k with | some (x, k) => some (AV.tu x, k) | none => none) = frz m G (.tu l) k
    rw [h k]
    simp only [frz]
  | ag l h =>
    intro k
    show (match frzR m G l k with | some (x, k) => some (AV.ag x, k) | none => none) = frz m G (.ag l) k
    rw [h k]
    simp only [frz]
  | _ =>
    intro k
    first | rfl | simp [frz, AV.plain]; rfl
noncomputable def cutF (G : Nat) (ps : List Plc) (r : Id) : Option Plc := match glob G r with
  | some g => some g
  | none => if r.length = DB then (if G ≤ num r then ps[num r - G]? else none) else none
theorem cutF_glob {G : Nat} (hG : G < 4 ^ DB) {ps : List Plc} {g : Nat} (hg : g < G) : cutF G ps (path DB g) = some (g, kOf g, 0) := by
  unfold cutF
  rw [glob_at hG hg]
theorem cutF_at {G i : Nat} {ps : List Plc} (h : G + i < 4 ^ DB) : cutF G ps (path DB (G + i)) = ps[i]? := by
  unfold cutF
  have hn := num_path DB (G + i) h
  cases e : glob G (path DB (G + i)) with
  | some g =>
    have := (glob_some e).2.1
    rw [hn] at this
    omega
  | none =>
    dsimp only
    rw [if_pos (path_len _ _), hn, if_pos (by omega)]
    congr 1
    omega
theorem cutF_some {G : Nat} {ps : List Plc} {r : Id} {g : Plc} (h : cutF G ps r = some g) : (r.length = DB ∧ num r < G ∧ g = (num r, kOf (num r), 0)) ∨ (r.length = DB ∧ G ≤ num r ∧ num r - G < ps.length ∧ ps[num r - G]? = some g) := by
  unfold cutF at h
  cases e : glob G r with
  | some g' =>
    rw [e] at h
    cases h
    exact .inl (glob_some e)
  | none =>
    rw [e] at h
    dsimp only at h
    split at h
    · rename_i h1
      split at h
      · rename_i h2
        exact .inr ⟨h1, h2, (List.getElem?_eq_some_iff.1 h).1, h⟩
      · cases h
    · cases h
section
variable {φ : Id → Option Plc} {sts : List Site} {B : Bse sts} {m : Mem} {nx : Id} {w : World} {G : Nat}
def CutAt (φ : Id → Option Plc) (m : Mem) (w : World) (c : Cut) (p : Plc) : Prop :=
  (∃ g x, φ c.1 = some g ∧ p = (g.1, g.2.1, g.2.2 + c.2.1) ∧ m.get c.1 = some x) ∧ ∃ o, w.heap[p.1]? = some o ∧ ∀ ψ, (Blk.row c.2.2.1 true none true c.2.2.2).says ψ p.2 o
def CutsAt (φ : Id → Option Plc) (m : Mem) (w : World) : List Cut → List Plc → Prop
  | [], [] => True
  | c :: cs, p :: ps => CutAt φ m w c p ∧ CutsAt φ m w cs ps
  | _, _ => False
theorem CutsAt.len : ∀ {cs : List Cut} {ps : List Plc}, CutsAt φ m w cs ps → ps.length = cs.length
  | [], [], _ => rfl
  | [], _ :: _, h => h.elim
  | _ :: _, [], h => h.elim
  | _ :: cs, _ :: ps, h => by simp [CutsAt.len h.2]
theorem CutsAt.app : ∀ {cs ds : List Cut} {ps qs : List Plc}, CutsAt φ m w cs ps → CutsAt φ m w ds qs → CutsAt φ m w (cs ++ ds) (ps ++ qs)
  | [], _, [], _, _, k => k
  | [], _, _ :: _, _, h, _ => h.elim
  | _ :: _, _, [], _, h, _ => h.elim
  | _ :: _, _, _ :: _, _, h, k => ⟨h.1, CutsAt.app h.2 k⟩
theorem CutsAt.at' : ∀ {cs : List Cut} {ps : List Plc} {i : Nat} {c : Cut} {p : Plc}, CutsAt φ m w cs ps → cs[i]? = some c → ps[i]? = some p → CutAt φ m w c p
  | [], _, _, _, _, _, h, _ => by simp at h
  | _ :: _, [], _, _, _, h, _, _ => h.elim
  | _ :: _, _ :: _, 0, _, _, h, h1, h2 => by
    simp only [List.getElem?_cons_zero, Option.some.injEq] at h1 h2
    subst h1 h2
    exact h.1
  | _ :: _, _ :: _, i + 1, _, _, h, h1, h2 => CutsAt.at' (i := i) h.2 (by simpa using h1) (by simpa using h2)
structure FrzOk (φ : Id → Option Plc) (m : Mem) (w : World) (G : Nat) (x : AV) (acc : List Cut) (X : AV) (acc' : List Cut) : Prop where
  ids : (acc.map (·.1)).Nodup → (acc'.map (·.1)).Nodup
  one : ∃ new, acc' = acc ++ new ∧
    (∀ v, VR φ x v → ∃ pn, CutsAt φ m w new pn ∧ ∀ ps rest, ps.length = acc.length → G + acc'.length < 4 ^ DB → VR (cutF G (ps ++ (pn ++ rest))) X v) ∧
    (∀ l, VL φ x l → ∃ pn, CutsAt φ m w new pn ∧ ∀ ps rest, ps.length = acc.length → G + acc'.length < 4 ^ DB → VL (cutF G (ps ++ (pn ++ rest))) X l)
theorem FrzOk.leaf {x : AV} {acc : List Cut} (h : x.plain = true) : FrzOk φ m w G x acc x acc where
  ids h := h
  one := ⟨[], by simp, fun v hv => ⟨[], trivial, fun ps rest _ _ => by show (x.says _).1 v; rw [AV.plain_says (ψ := φ) h]; exact hv⟩, fun l hv => ⟨[], trivial, fun ps rest _ _ => by show (x.says _).2 l; rw [AV.plain_says (ψ := φ) h]; exact hv⟩⟩
theorem frzS_ok (hw : WR φ B m nx w) {r : Id} {q : Nat} {acc : List Cut} {i : Id} {a : List Cut} (h : frzS m G r q acc = some (i, a)) :
    i = path DB (G + acc.length) ∧ ((acc.map (·.1)).Nodup → (a.map (·.1)).Nodup) ∧ ∃ c, a = acc ++ [c] ∧ ∀ g, φ r = some g → CutAt φ m w c (g.1, g.2.1, g.2.2 + q) := by
  unfold frzS at h
  split at h
  · rename_i t gr fz ro cells hm
    split at h
    · rename_i hc
      simp only [Bool.and_eq_true, Bool.not_eq_true'] at hc
      obtain ⟨c1, c2, c3⟩ := hc
      rw [plainR_eq] at c2
      have c1' : q ≤ cells.len := Nat.le_of_ble_eq_true c1
      simp only [Option.some.injEq, Prod.mk.injEq] at h
      obtain ⟨rfl, rfl⟩ := h
      refine ⟨rfl, fun hn => ?_, _, rfl, fun g hg => ⟨⟨g, _, hg, rfl, hm⟩, ?_⟩⟩
      · rw [List.map_append, List.map_singleton]
        rw [List.nodup_append]
        refine ⟨hn, by simp, fun x hx y hy e => ?_⟩
        simp only [List.mem_singleton] at hy
        obtain ⟨c, hc, hcx⟩ := List.mem_map.1 hx
        have : eqA.listEqId r c.1 = false := by
          rw [List.any_eq_false] at c3
          simpa using c3 c hc
        rw [hcx, e, hy] at this
        have hself : ∀ r : Id, eqA.listEqId r r = true := fun r => by
          induction r with
          | nil => rfl
          | cons d r ih => simp [eqA.listEqId, ih]
        rw [hself] at this
        cases this
      · obtain ⟨o, e1, c, pre, l, rest, mk, h1, h2, h3, h4, h5, h6, h7⟩ := hw.blk r _ g hm hg
        refine ⟨o, e1, fun ψ => ⟨c, pre ++ l.take q, l.drop q, rest, mk, h1, ?_, ?_, (fun h => by cases h), h5, ?_, trivial⟩⟩
        · rw [h2, List.append_assoc, ← List.append_assoc (l.take q), List.take_append_drop]
        · have := VL.drop (φ := φ) q h3
          show ((cells.drop q).says ψ).2 _
          rw [AV.plain_says (ψ := φ) c2]
          exact this
        · have hl := VL.len h3
          rw [List.length_append, List.length_take, h6, hl]
          show g.2.2 + min q cells.len = g.2.2 + q
          omega
    · cases h
  · cases h
theorem pick_one {acc : List Cut} {ps rest : List Plc} {p : Plc} (h1 : ps.length = acc.length) (h2 : G + (acc.length + 1) < 4 ^ DB) : cutF G (ps ++ ([p] ++ rest)) (path DB (G + acc.length)) = some p := by
  rw [cutF_at (by omega), ← h1]
  simp
theorem frz_ok (hw : WR φ B m nx w) : ∀ (x : AV) (acc : List Cut) (X : AV) (acc' : List Cut), frz m G x acc = some (X, acc') → FrzOk φ m w G x acc X acc' := by
  intro x
  induction x with
  | sl r q n c =>
    intro acc X acc' h
    simp only [frz] at h
    split at h
    · rename_i i a hs
      simp only [Option.some.injEq, Prod.mk.injEq] at h
      obtain ⟨rfl, rfl⟩ := h
      obtain ⟨rfl, h1, cu, rfl, h2⟩ := frzS_ok hw hs
      refine ⟨h1, [cu], rfl, fun v ⟨g, k, e1, e2, e3, e4⟩ => ⟨[_], ⟨h2 g e1, trivial⟩, fun ps rest q1 q2 => ⟨_, k, pick_one q1 (by simpa using q2), e2, e3, e4⟩⟩, fun l hl => hl.elim⟩
    · cases h
  | sg r q n z =>
    intro acc X acc' h
    simp only [frz] at h
    split at h
    · rename_i i a hs
      simp only [Option.some.injEq, Prod.mk.injEq] at h
      obtain ⟨rfl, rfl⟩ := h
      obtain ⟨rfl, h1, cu, rfl, h2⟩ := frzS_ok hw hs
      refine ⟨h1, [cu], rfl, fun v ⟨g, k, e1, e2, e3, e4⟩ => ⟨[_], ⟨h2 g e1, trivial⟩, fun ps rest q1 q2 => ⟨_, k, pick_one q1 (by simpa using q2), e2, e3, e4⟩⟩, fun l hl => hl.elim⟩
    · cases h
  | se r q z =>
    intro acc X acc' h
    simp only [frz] at h
    split at h
    · rename_i i a hs
      simp only [Option.some.injEq, Prod.mk.injEq] at h
      obtain ⟨rfl, rfl⟩ := h
      obtain ⟨rfl, h1, cu, rfl, h2⟩ := frzS_ok hw hs
      refine ⟨h1, [cu], rfl, fun v ⟨g, o, k, e1, e2, e3⟩ => ⟨[_], ⟨h2 g e1, trivial⟩, fun ps rest q1 q2 => ⟨_, o, k, pick_one q1 (by simpa using q2), e2, e3⟩⟩, fun l hl => hl.elim⟩
    · cases h
  | cons x y ihx ihy =>
    intro acc X acc' h
    simp only [frz] at h
    split at h
    · rename_i x' a hx
      split at h
      · rename_i y' b hy
        simp only [Option.some.injEq, Prod.mk.injEq] at h
        obtain ⟨rfl, rfl⟩ := h
        obtain ⟨i1, n1, rfl, v1, l1⟩ := ihx _ _ _ hx
        obtain ⟨i2, n2, rfl, v2, l2⟩ := ihy _ _ _ hy
        refine ⟨fun hn => i2 (i1 hn), n1 ++ n2, by rw [List.append_assoc], fun v hv => hv.elim, fun l ⟨v, vs, e, k1, k2⟩ => ?_⟩
        obtain ⟨p1, c1, f1⟩ := v1 v k1
        obtain ⟨p2, c2, f2⟩ := l2 vs k2
        refine ⟨p1 ++ p2, c1.app c2, fun ps rest q1 q2 => ⟨v, vs, e, ?_, ?_⟩⟩
        · have := f1 ps (p2 ++ rest) q1 (by simp only [List.length_append] at q2 ⊢; omega)
          rw [List.append_assoc]
          exact this
        · have := f2 (ps ++ p1) rest (by simp [q1, c1.len]) q2
          rw [List.append_assoc] at this
          rw [List.append_assoc]
          exact this
      · cases h
    · cases h
  | ag l ih =>
    intro acc X acc' h
    simp only [frz] at h
    split at h
    · rename_i l' a hl
      simp only [Option.some.injEq, Prod.mk.injEq] at h
      obtain ⟨rfl, rfl⟩ := h
      obtain ⟨i1, n1, rfl, v1, l1⟩ := ih _ _ _ hl
      refine ⟨i1, n1, rfl, fun v ⟨xs, e, k⟩ => ?_, fun l hv => hv.elim⟩
      obtain ⟨p1, c1, f1⟩ := l1 _ k
      exact ⟨p1, c1, fun ps rest q1 q2 => ⟨xs, e, f1 ps rest q1 q2⟩⟩
    · cases h
  | tu l ih =>
    intro acc X acc' h
    simp only [frz] at h
    split at h
    · rename_i l' a hl
      simp only [Option.some.injEq, Prod.mk.injEq] at h
      obtain ⟨rfl, rfl⟩ := h
      obtain ⟨i1, n1, rfl, v1, l1⟩ := ih _ _ _ hl
      refine ⟨i1, n1, rfl, fun v ⟨xs, e, k⟩ => ?_, fun l hv => hv.elim⟩
      obtain ⟨p1, c1, f1⟩ := l1 _ k
      exact ⟨p1, c1, fun ps rest q1 q2 => ⟨xs, e, f1 ps rest q1 q2⟩⟩
    · cases h
  | _ =>
    intro acc X acc' h
    simp only [frz] at h
    split at h
    · rename_i hp
      simp only [Option.some.injEq, Prod.mk.injEq] at h
      obtain ⟨rfl, rfl⟩ := h
      exact FrzOk.leaf hp
    · cases h
def mkC : Nat → List (TypeId × AV) → List (Nat × Blk)
  | _, [] => []
  | j, c :: cs => (j, .row c.1 true none true c.2) :: mkC (j + 1) cs
theorem mkC_mem : ∀ {cs : List (TypeId × AV)} {j : Nat} {p : Nat × Blk}, p ∈ mkC j cs → ∃ i c, cs[i]? = some c ∧ p = (j + i, .row c.1 true none true c.2)
  | [], j, p, h => by cases h
  | c :: cs, j, p, h => by
    rcases List.mem_cons.1 h with rfl | h
    · exact ⟨0, c, by simp, rfl⟩
    · obtain ⟨i, d, h1, h2⟩ := mkC_mem h
      refine ⟨i + 1, d, by simpa using h1, ?_⟩
      rw [h2, Nat.add_assoc, Nat.add_comm 1 i]
theorem cut_get {acc : List Cut} {r : Id} {x : Blk} (h : (mkMem (mkC G (acc.map (·.2.2)))).get r = some x) : ∃ i c, acc[i]? = some c ∧ r = path DB (G + i) ∧ x = .row c.2.2.1 true none true c.2.2.2 := by
  obtain ⟨p, h1, h2, h3⟩ := mem_get h
  obtain ⟨i, d, h4, rfl⟩ := mkC_mem h1
  rw [List.getElem?_map, Option.map_eq_some_iff] at h4
  obtain ⟨c, h5, rfl⟩ := h4
  exact ⟨i, c, h5, h2, h3⟩
theorem cut_wr (hG : okG G = true) (hw : WR φ B m nx w) (hgw : G ≤ w.heap.size) {acc : List Cut} {ps : List Plc} (hg : CutsAt φ m w acc ps) (hn : (acc.map (·.1)).Nodup) (hcap : G + acc.length < 4 ^ DB) :
    WR (cutF G ps) (⟨w.heap.size, []⟩ : Bse []) (mkMem (mkC G (acc.map (·.2.2)))) (path DB (G + acc.length)) w where
  len := path_len _ _
  fresh r hr := by
    rw [num_path DB _ hcap]
    rcases hr with hr | hr
    · cases e : (mkMem (mkC G (acc.map (·.2.2)))).get r with
      | none => exact absurd e hr
      | some x =>
        obtain ⟨i, c, h1, rfl, _⟩ := cut_get e
        have hi := (List.getElem?_eq_some_iff.1 h1).1
        rw [num_path DB _ (by omega)]
        exact ⟨path_len _ _, by omega⟩
    · cases e : cutF G ps r with
      | none => exact absurd e hr
      | some g =>
        have hl := hg.len
        rcases cutF_some e with ⟨h1, h2, _⟩ | ⟨h1, h2, h3, _⟩
        · exact ⟨h1, by omega⟩
        · exact ⟨h1, by omega⟩
  blk r x g hr hg' := by
    obtain ⟨i, c, h1, rfl, rfl⟩ := cut_get hr
    have hi := (List.getElem?_eq_some_iff.1 h1).1
    rw [cutF_at (by omega)] at hg'
    obtain ⟨_, o, h2, h3⟩ := hg.at' h1 hg'
    exact ⟨o, h2, h3 _⟩
  inj r r' x x' g g' hr hr' h1 h1' he := by
    obtain ⟨i, c, h2, rfl, rfl⟩ := cut_get hr
    obtain ⟨j, d, h3, rfl, rfl⟩ := cut_get hr'
    have hi := (List.getElem?_eq_some_iff.1 h2).1
    have hj := (List.getElem?_eq_some_iff.1 h3).1
    rw [cutF_at (by omega)] at h1 h1'
    obtain ⟨⟨a, y, a1, a2, a3⟩, _⟩ := hg.at' h2 h1
    obtain ⟨⟨b, z, b1, b2, b3⟩, _⟩ := hg.at' h3 h1'
    have e0 : c.1 = d.1 := hw.inj c.1 d.1 y z a b a3 b3 a1 b1 (by rw [a2, b2] at he; exact he)
    have : i = j := by
      have q1 : (acc.map (·.1))[i]? = some c.1 := by rw [List.getElem?_map, h2]; rfl
      have q2 : (acc.map (·.1))[j]? = some d.1 := by rw [List.getElem?_map, h3]; rfl
      obtain ⟨u1, u2⟩ := List.getElem?_eq_some_iff.1 q1
      obtain ⟨v1, v2⟩ := List.getElem?_eq_some_iff.1 q2
      have hp := List.pairwise_iff_getElem.1 hn
      rcases Nat.lt_trichotomy i j with h | h | h
      · exact absurd (u2.trans (e0.trans v2.symm)) (hp i j u1 v1 h)
      · exact h
      · exact absurd (v2.trans (e0.symm.trans u2.symm)) (hp j i v1 u1 h)
    rw [this]
  lt r g h := by
    rcases cutF_some h with ⟨h1, h2, rfl⟩ | ⟨h1, h2, h3, h4⟩
    · exact Nat.lt_of_lt_of_le h2 hgw
    · have hl := hg.len
      have hc : ∃ c, acc[num r - G]? = some c := ⟨_, List.getElem?_eq_getElem (by omega)⟩
      obtain ⟨c, hc⟩ := hc
      obtain ⟨⟨a, y, a1, a2, a3⟩, _⟩ := hg.at' hc h4
      rw [a2]
      show a.1 < _
      exact hw.lt _ _ a1
  base r x g hr hx := by
    obtain ⟨i, c, _, _, rfl⟩ := cut_get hr
    cases hx
  bsz := Nat.le_refl _
  loops := trivial
  tabs := hw.tabsW
end
inductive KTree where
  | leaf
  | node (l : KTree) (n : Nat) (x : AV) (cs : List (TypeId × AV)) (v : AV) (r : KTree)
noncomputable def sameC : List (TypeId × AV) → List (TypeId × AV) → Bool
  | [], [] => true
  | c :: cs, d :: ds => Nat.beq c.1 d.1 && (eqR c.2 d.2 && sameC cs ds)
  | _, _ => false
theorem sameC_eq : ∀ {cs ds : List (TypeId × AV)}, sameC cs ds = true → cs = ds
  | [], [], _ => rfl
  | [], _ :: _, h => by cases h
  | _ :: _, [], h => by cases h
  | (a, b) :: cs, (c, d) :: ds, h => by
    simp only [sameC, Bool.and_eq_true] at h
    rw [Nat.eq_of_beq_eq_true h.1, eqR_eq h.2.1, sameC_eq h.2.2]
noncomputable def lenS (l : List Nat) : Nat := List.rec (motive := fun _ => Nat) 0 (fun _ _ ih => Nat.succ ih) l
noncomputable def AV.keyI (x : AV) : Nat → Nat :=
  AV.rec (motive := fun _ => Nat → Nat) (fun a => a) (fun a => a) (fun _ _ kx kr a => kr (kx a)) (fun a => a) (fun _ _ _ a => a) (fun a => a) (fun _ _ _ _ _ a => a) (fun a => a) (fun _ a => a) (fun _ k a => k a) (fun _ k a => k a) (fun a => a) (fun _ _ _ _ a => a) (fun _ _ _ _ a => a) (fun _ _ _ a => a) (fun _ a => a) (fun _ a => a) (fun a => a) (fun _ _ a => a)
    (fun l a => Nat.add (Nat.mul (Nat.succ a) 257) (lenS l)) (fun y a => Bool.rec (motive := fun _ => Nat) (Nat.mul a 3) (Nat.add (Nat.mul a 3) 1) y) (fun _ n a => Nat.add (Nat.mul a 1000003) (Int.natAbs n)) x
noncomputable def keyC (cs : List (TypeId × AV)) (acc : Nat) : Nat := List.rec (motive := fun _ => Nat → Nat) (fun a => a) (fun c _ ih a => ih (c.2.keyI (Nat.succ a))) cs acc
noncomputable def KTree.find (n : Nat) (x : AV) (cs : List (TypeId × AV)) (T : KTree) : Option AV :=
  KTree.rec (motive := fun _ => Option AV) none (fun _ j a ds v _ ihl ihr => Bool.rec (motive := fun _ => Option AV) (Bool.rec (motive := fun _ => Option AV) (Bool.rec (motive := fun _ => Option AV) none (some v) (eqR a x && sameC ds cs)) ihr (Nat.blt j n)) ihl (Nat.blt n j)) T
noncomputable def KTree.all (Q : AV → List (TypeId × AV) → AV → Bool) : KTree → Bool
  | .leaf => true
  | .node l _ a cs v r => l.all Q && (Q a cs v && r.all Q)
theorem KTree.all_node {Q : AV → List (TypeId × AV) → AV → Bool} {l r : KTree} {n : Nat} {a v : AV} {cs : List (TypeId × AV)} (h1 : l.all Q = true) (h2 : Q a cs v = true) (h3 : r.all Q = true) : (KTree.node l n a cs v r).all Q = true := by
  simp only [KTree.all, h1, h2, h3, Bool.and_self]
theorem KTree.find_some {Q : AV → List (TypeId × AV) → AV → Bool} {n : Nat} {x v : AV} {cs : List (TypeId × AV)} : ∀ {T : KTree}, T.all Q = true → T.find n x cs = some v → Q x cs v = true
  | .leaf, _, h => by cases h
  | .node l j a ds u r, h, k => by
    simp only [KTree.all, Bool.and_eq_true] at h
    have k' : (Bool.rec (motive := fun _ => Option AV) (Bool.rec (motive := fun _ => Option AV) (Bool.rec (motive := fun _ => Option AV) none (some u) (eqR a x && sameC ds cs)) (r.find n x cs) (Nat.blt j n)) (l.find n x cs) (Nat.blt n j) : Option AV) = some v := k
    cases h1 : Nat.blt n j with
    | true => rw [h1] at k'; exact KTree.find_some h.1 k'
    | false =>
      rw [h1] at k'
      cases h2 : Nat.blt j n with
      | true => rw [h2] at k'; exact KTree.find_some h.2.2 k'
      | false =>
        rw [h2] at k'
        cases h3 : (eqR a x && sameC ds cs) with
        | false => rw [h3] at k'; cases k'
        | true =>
          rw [h3] at k'
          simp only [Bool.and_eq_true] at h3
          have e1 := eqR_eq h3.1
          have e2 := sameC_eq h3.2
          cases k'
          subst e1 e2
          exact h.2.1
section
variable {P : Program} {G : Nat}
noncomputable def runK (T : FTree P G) (fuel : Nat) (f : FuncId) (x : AV) (cs : List (TypeId × AV)) : R := (Hd.c ⟨hdM T fuel, y0⟩) f x (.mk (mkMem (mkC G cs)) (path DB (G + cs.length))) (fun v hp => some (v, hp)) (fun _ _ => none)
noncomputable def knownK (T : FTree P G) (fuel : Nat) (f : FuncId) (x : AV) (cs : List (TypeId × AV)) (v : AV) : Bool := Nat.blt (G + cs.length) (4 ^ DB) && (v.plain && (match runK T fuel f x cs with
  | some (v', _) => v'.same v
  | none => false))
noncomputable def lookK (G : Nat) (M : KTree) (args : AV) (hp : HP) (k : AV → R) (els : R) : R := match hp with
  | .mk m _ => match frzR m G args [] with
    | some (x, a) => match M.find (keyC (a.map (·.2.2)) (x.keyI 1)) x (a.map (·.2.2)) with
      | some v => k v
      | none => els
    | none => els
noncomputable def Ent.look {T : FTree P G} {fuel : Nat} (e : Ent P G) (M : KTree) (hG : okG G = true) (hc : ∀ (ars : Array Value) w, (callFunc e.f ars).run P w = .ok (.enter e.f ars) w) (h : M.all (knownK T fuel e.f) = true) : Ent P G :=
  ⟨e.f, .mk fun hd args hp k kp => lookK G M args hp (fun v => k v hp) (e.m.run hd args hp k kp), e.d, (fun hd hok args hp k kp r hr => by
    have hr' : lookK G M args hp (fun v => k v hp) (e.m.run hd args hp k kp) = some r := hr
    unfold lookK at hr'
    split at hr'
    rename_i m nx
    split at hr'
    · rename_i x a hz
      rw [frzR_eq] at hz
      split at hr'
      · rename_i v hf
        have hk := KTree.find_some h hf
        simp only [knownK, Bool.and_eq_true] at hk
        obtain ⟨p1, p2, p3⟩ := hk
        split at p3
        · rename_i v' hp' hrun
          have := AV.same_eq p3
          subst this
          have hcap : G + a.length < 4 ^ DB := by simpa [Nat.blt_eq] using p1
          refine .inl ⟨_, _, hr', fun φ B w ars g1 hw hargs => .inl ⟨hc ars w, ?_⟩⟩
          have hw' : WR φ B m nx w := hw
          have hgw := g1.size hw'
          obtain ⟨i1, new, e0, _, l1⟩ := frz_ok (G := G) hw' args [] x a hz
          rw [List.nil_append] at e0
          rw [← e0] at l1
          obtain ⟨pn, c1, f1⟩ := l1 _ hargs
          have ha : VL (cutF G pn) x ars.toList := by
            have := f1 [] [] rfl hcap
            simpa using this
          have hW := cut_wr hG hw' hgw c1 (i1 List.nodup_nil) hcap
          rcases (hd0_ok T fuel).c e.f x _ _ _ _ hrun with ⟨v1, hp1, h1, h2⟩ | ⟨v1, hp1, h1, h2⟩
          · cases h1
            have h0 : WH (cutF G pn) (⟨w.heap.size, []⟩ : Bse []) (.mk (mkMem (mkC G (a.map (·.2.2)))) (path DB (G + (a.map (·.2.2)).length))) w := by
              rw [List.length_map]
              exact hW
            rcases h2 (cutF G pn) ⟨w.heap.size, []⟩ w ars (fun g hg => ⟨_, cutF_glob (okG_lt hG) hg⟩) h0 ha with ⟨_, h3⟩ | ⟨v2, w2, h3, _⟩
            · refine h3.mono fun e' w' ⟨u, e1, ψ, h4, h5, h6⟩ => ?_
              have hb : Below w.heap.size w w' := Step.below h0 h5
              obtain ⟨s1, s2⟩ := hw'.below hb
              refine ⟨u, e1, φ, ?_, s2, s1⟩
              show (AV.says φ _).1 _
              rw [AV.plain_says (ψ := ψ) p2]
              exact h4
            · rw [hc ars w] at h3
              cases h3
          · cases h1
        · cases p3
      · exact e.ok hd hok args _ k kp r hr'
    · exact e.ok hd hok args _ k kp r hr'), e.okD, true, fun _ => hc⟩
end
end Go.Proofs.YtknjkljigmepjaaGreatDoor.Clo
end
