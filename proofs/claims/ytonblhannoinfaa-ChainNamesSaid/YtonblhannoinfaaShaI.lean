/- Layer 3 (sha): digests of any text, in one contract; an array of twenty bytes stored, and held against itself. -/
import Derived.Test.YtonblhannoinfaaShaH
namespace Go.Proofs.Ytonblhannoinfaa
open Go.RowKit
theorem rd_none {w : World} {B n : Nat} {A : Option Addr} {xs : List Value} (h : Rd w B 1 A n xs) : A = none → n = 0 := by
  intro e
  rcases Nat.eq_zero_or_pos n with h0 | h0
  · exact h0
  · obtain ⟨_, _, e', _⟩ := h.2 h0
    rw [e] at e'; cases e'
theorem of_all_sha (A : Option Addr) (n c B : Nat) (b : List Int) (w : World) (hB : B ≤ w.heap.size) (hr : Rd w B 1 A n (ints .u8 b)) (hb : Bytes8 b) (hc : n ≤ c) (h63 : n ≤ 9223372036854775807) :
    Calls Try.prog 31 #[.slice A n c] w (ShaPost b w) := by
  by_cases hn : 16384 < n
  · exact of_many_sha A n c B b w hB (by have := hr.1; simpa [ints] using this) hn h63
  · exact of_ok_sha A n c B b w hB hr hb hc (by omega) (rd_none hr)
theorem equalIn20 (l : List Int) (hl : l.length = 20) (W : World) : (Op.equalIn 10000 43 (.agg (ints .u8 l).toArray) (.agg (ints .u8 l).toArray)).run Try.prog W = .ok true W := by
  obtain ⟨i0, hi, _⟩ := info_parts info_u8
  have hc : Try.prog.cellsOf 5 = 1 := by kernel_rfl
  rw [run_equalIn_array W 9999 _ _ Try.underlying43 hi, hc, eqItems_self 9998 .u8 l Try.underlying5 Try.isAgg5 W _ (fun j hj => by have := List.mem_range.1 hj; omega)]
theorem guard20 (x y : Operand) (xs ys : Array Value) (W : World) : (eqGuard .eql 43 x y (.agg xs) (.agg ys)).run Try.prog W = .ok () W := run_eqGuard_agg W .eql 43 x y xs ys (P := Try.prog) (by kernel_rfl)
theorem size20 {l : List Int} (hl : l.length = 20) : (Try.prog.info? 43).map (·.size) = some (ints .u8 l).toArray.size := by
  rw [show (ints .u8 l).toArray.size = 20 by simpa [ints] using hl]; kernel_rfl
theorem old20 {l : List Int} (hl : l.length = 20) : (ints .u8 (List.replicate 20 0)).toArray.size = (ints .u8 l).toArray.size := by
  rw [show (ints .u8 l).toArray.size = 20 by simpa [ints] using hl]; rfl
/-- a new variable of twenty bytes, with what is stored in it -/
theorem new20 (w : World) (l : List Int) : RowAt ((w.alloc (.cells (ints .u8 (List.replicate 20 0)).toArray 43)).setRow w.heap.size (ints .u8 l).toArray) w.heap.size 43 .u8 l ∧
    Below w.heap.size w ((w.alloc (.cells (ints .u8 (List.replicate 20 0)).toArray 43)).setRow w.heap.size (ints .u8 l).toArray) :=
  ⟨setRow_heap _ w.heap.size _ _ _ _ (heap_alloc_new w _), below_setRow ((Below.refl _ w).alloc (Nat.le_refl _) _) (Nat.le_refl _) _⟩
end Go.Proofs.Ytonblhannoinfaa
