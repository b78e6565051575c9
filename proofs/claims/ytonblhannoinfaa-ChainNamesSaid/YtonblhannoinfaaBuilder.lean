/- strings.Builder's copyCheck and Write: the proofs of the shelf's copyCheck and WriteByte turned to this program. -/
import Derived.Test.YtonblhannoinfaaMem
import Derived.Test.YtonblhannoinfaaShelf
namespace Go.Proofs.Ytonblhannoinfaa
open Go.RowKit
set_option linter.unusedVariables false

theorem sizeBuilder_ : (Try.prog.info? 87).map (·.size) = some 2 := by kernel_rfl
theorem liesBuilder_ : liesAt Try.prog Try.prog.depth 87 (2 / Try.prog.cellsOf 87) 0 87 1 = true := by kernel_rfl
set_option maxHeartbeats 1000000 in
set_option maxRecDepth 100000 in
theorem copyCheck_used (b : Nat) (w : World) (h0 : w.cell? ⟨b, 0, none⟩ = some (.pointer (some ⟨b, 0, none⟩))) :
    Calls Try.prog 79 #[.pointer (some ⟨b, 0, none⟩)] w fun e w' => e = .returned (.tuple #[]) ∧ w' = w := by
  obtain ⟨j, hj, _⟩ := Option.map_eq_some_iff.1 sizeBuilder_
  go_enter Try.func79, Try.ntmps79
  go_wp2
  rw [Lib.run_neq_ptr_same w _ Try.underlying85 hj]
  go_wp2
  go_end0
  exact ⟨rfl, rfl⟩
set_option maxHeartbeats 1000000 in
set_option maxRecDepth 100000 in
theorem copyCheck_fresh (b : Nat) (w : World) (h0 : w.cell? ⟨b, 0, none⟩ = some (.pointer none)) (hsh : w.shape? b = some (87, 2)) (hfz : w.frozen? ⟨b, 0, none⟩ = false) :
    Calls Try.prog 79 #[.pointer (some ⟨b, 0, none⟩)] w fun e w' => e = .returned (.tuple #[]) ∧ w' = w.setCell ⟨b, 0, none⟩ (.pointer (some ⟨b, 0, none⟩)) := by
  obtain ⟨j, hj, hjs⟩ := Option.map_eq_some_iff.1 sizeBuilder_
  go_enter Try.func79, Try.ntmps79
  go_wp2
  rw [Lib.run_to_unsafe w ⟨b, 0, none⟩ Try.underlying85 Try.underlying113 hj (by rw [hjs]; decide) hsh (Nat.zero_lt_succ 1)]
  simp only [Result.andThen]
  rw [Oper.upon_value]
  go_wp2
  rw [run_callFunc_extern Try.func85 (by kernel_rfl) (by kernel_rfl) (by kernel_rfl) (e := Extern.AbiNoEscape.same) (by kernel_rfl)]
  rw [Lib.run_noEscape]
  simp only [Result.andThen]
  rw [Oper.upon_value]
  go_wp2
  rw [Lib.run_from_unsafe w ⟨b, 0, none⟩ Try.underlying113 Try.underlying85 hj hsh liesBuilder_]
  simp only [Result.andThen]
  rw [Oper.upon_value]
  go_wp2
  go_end0
  exact ⟨rfl, rfl⟩
theorem copyCheck_any (B b : Nat) (bs : List Value) (w : World) (h : Lib.IsBuilder 87 5 B b bs w) :
    Calls Try.prog 79 #[.pointer (some ⟨b, 0, none⟩)] w fun e w' => e = .returned (.tuple #[]) ∧ (Lib.BuilderAt 87 5 B b (.pointer (some ⟨b, 0, none⟩)) bs w' ∧ Below B w w' ∧ ∀ p : Addr, p.block ≠ b → w'.cell? p = w.cell? p) := by
  rcases h with h | h
  · refine (copyCheck_fresh b w h.cell0 h.shape h.frozen0).mono ?_
    rintro e w' ⟨rfl, rfl⟩
    exact ⟨rfl, h.used _, (Below.refl B w).setCell (p := ⟨b, 0, none⟩) h.1 _, fun p hp => World.cell?_setCell_other w _ p _ (fun e => hp (by rw [← e]))⟩
  · refine (copyCheck_used b w h.cell0).mono ?_
    rintro e w' ⟨rfl, rfl⟩
    exact ⟨rfl, h, Below.refl B _, fun _ _ => rfl⟩
theorem own_keep {w w' : World} {base : Nat} {e : TypeId} {s : Nat} {v : Value} {n : Nat} {xs : List Value} (h : w.ownsRow base e s v n xs) (hb : Below w.heap.size w w') : w'.ownsRow base e s v n xs :=
  h.kept (row := none) ⟨hb.os, hb.tape, hb.output, hb.size, fun k hk _ => hb.block k hk⟩ (by cases h' : v.ownBlock with | none => exact .inl rfl | some g => exact .inr (by simp))
theorem BuilderAt_keep {T e : TypeId} {B b : Nat} {p : Value} {bs : List Value} {w w' : World} (h : Lib.BuilderAt T e B b p bs w) (hb : Below w.heap.size w w') : Lib.BuilderAt T e B b p bs w' := by
  have hlt := h.lt
  obtain ⟨hB, v, hbk, hown, hne⟩ := h
  exact ⟨hB, v, (hb.block b hlt).trans hbk, own_keep hown hb, hne⟩
theorem IsBuilder_keep {T e : TypeId} {B b : Nat} {bs : List Value} {w w' : World} (h : Lib.IsBuilder T e B b bs w) (hb : Below w.heap.size w w') : Lib.IsBuilder T e B b bs w' :=
  h.elim (fun h => .inl (BuilderAt_keep h hb)) (fun h => .inr (BuilderAt_keep h hb))
theorem IsBuilder_lt {T e : TypeId} {B b : Nat} {bs : List Value} {w : World} (h : Lib.IsBuilder T e B b bs w) : b < w.heap.size := h.elim (fun h => h.lt) (fun h => h.lt)
theorem Rd.away {w w' : World} {B s n b : Nat} {A : Option Addr} {xs : List Value} (h : Rd w B s A n xs) (hA : ∀ a, A = some a → a.block ≠ b) (hk : ∀ p : Addr, p.block ≠ b → w'.cell? p = w.cell? p) : Rd w' B s A n xs :=
  ⟨h.1, fun hn => by
    obtain ⟨b', off, e, hb, hc⟩ := h.2 hn
    exact ⟨b', off, e, hb, fun j u hu => (hk ⟨b', off + j, none⟩ (hA ⟨b', off, none⟩ e)).trans (hc j u hu)⟩⟩
set_option maxHeartbeats 2000000 in
set_option maxRecDepth 100000 in
theorem builder_write (B C b n c : Nat) (A : Option Addr) (ys xs : List Int) (w : World) (h : Lib.IsBuilder 87 5 B b (ints .u8 ys) w) (hlen : ys.length + n ≤ 1000000000) (hBw : B ≤ w.heap.size)
    (hr : Rd w C 1 A n (ints .u8 xs)) (hA : ∀ a, A = some a → a.block ≠ b) :
    Calls Try.prog 59 #[.pointer (some ⟨b, 0, none⟩), .slice A n c] w fun e w' => e = .returned (.tuple #[.int .i64 n, .nilIface]) ∧ (Lib.BuilderAt 87 5 B b (.pointer (some ⟨b, 0, none⟩)) (ints .u8 (ys ++ xs)) w' ∧ Below B w w') := by
  go_enter Try.func59, Try.ntmps59
  go_wp2_with fail
  refine (copyCheck_any B b _ _ h).mono ?_
  rintro e w1 ⟨rfl, h1, hb1, hk1⟩
  obtain ⟨hB, v, hbk, hown, hne⟩ := h1
  have c0 : w1.cell? ⟨b, 0, none⟩ = some (.pointer (some ⟨b, 0, none⟩)) := by rw [Lib.cell_of_heap hbk]; rfl
  have c1 : w1.cell? ⟨b, 1, none⟩ = some v := by rw [Lib.cell_of_heap hbk]; rfl
  have hr1 := hr.away hA hk1
  clear hk1 hA
  have hl : (ints .u8 ys).length = ys.length := by simp [ints]
  go_wp2_with (at_builtin; refine app_u8s rfl _ _ rfl B v ys.length ys rfl (hl ▸ hown) _ _ _ _ _ rfl hr1 (by omega) (by have := hb1.size; omega) ?_)
  intro v' w2 hown' hgrow _
  have hlt : b < w1.heap.size := by
    rcases Nat.lt_or_ge b w1.heap.size with h' | h'
    · exact h'
    · simp [Array.getElem?_eq_none h'] at hbk
  have hb2 : w2.heap[b]? = some (.cells #[.pointer (some ⟨b, 0, none⟩), v] 87 (0, 0)) := by
    rw [hgrow.block b hlt (fun e => hne e.symm)]
    exact hbk
  have d0 : w2.cell? ⟨b, 0, none⟩ = some (.pointer (some ⟨b, 0, none⟩)) := by rw [Lib.cell_of_heap hb2]; rfl
  have d1 : w2.cell? ⟨b, 1, none⟩ = some v := by rw [Lib.cell_of_heap hb2]; rfl
  have f1 : w2.frozen? ⟨b, 1, none⟩ = false := Lib.frozen_of_heap hb2 1
  clear c0 c1
  obtain ⟨ao, cap, rfl⟩ : ∃ ao cap, v' = .slice ao (ys.length + n) cap := by
    rcases hown'.2 with ⟨hv, h0⟩ | ⟨g, cap, cur, hv, _⟩
    · exact ⟨none, 0, by rw [hv, h0]⟩
    · exact ⟨_, _, hv⟩
  go_wp2
  go_ret2
  refine ⟨rfl, ?_, ?_⟩
  · exact Lib.BuilderAt.put hB hb2 (by rw [show (ints .u8 (ys ++ xs)).length = ys.length + n by have := hr.1; simp [ints] at this ⊢; omega]; exact hown') (by decide)
  · exact (hb1.grown hgrow (Nat.le_trans hBw hb1.size) (fun k hk => (hown.lt k hk).1)).setCell (p := ⟨b, 1, none⟩) hB _
end Go.Proofs.Ytonblhannoinfaa
