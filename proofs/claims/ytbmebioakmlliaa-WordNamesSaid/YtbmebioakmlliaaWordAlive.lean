/- The walk of the word laws' examples: they answer true. -/
import Derived.Test.YtbmebioakmlliaaWordOf
namespace Go.Proofs.Ytbmebioakmlliaa
open Go.RowKit
set_option maxHeartbeats 1000000 in
set_option maxRecDepth 10000 in
theorem wordAlive_any (w : World) : Calls Try.prog 39 #[] w fun e w' => e = .returned (.bool true) ∧ Below w.heap.size w w' := by
  have ht1 : (turnI 2147483649 4 == 24) = true := by decide +kernel
  have ht2 : (turnI 2147483649 (-1) == 3221225472) = true := by decide +kernel
  have hr : Rd (w.alloc (.cells #[.int .u8 0, .int .u8 0, .int .u8 1, .int .u8 2] 5)) (w.heap.size + 1) 1 (some ⟨w.heap.size, 0, none⟩) 4 (ints .u8 [0, 0, 1, 2]) := rd_int4 _ _ _ _ _ _ _
  have hb8 : Bytes8 [0, 0, 1, 2] := by intro x hx; simp at hx; omega
  have HR := Lib.hid hr
  have HT1 := Lib.hid ht1
  have HT2 := Lib.hid ht2
  clear hr ht1 ht2
  go_enter Try.func39, Try.ntmps39
  go_wp2_with fail
  refine (of_all _ 4 4 (w.heap.size + 1) [0, 0, 1, 2] _ (by simp) hb8 HR.out).mono ?_
  rintro e w1 ⟨A1, c1, rfl, hr1, hb1⟩
  have e1 : ofWds [0, 0, 1, 2] = [258] := by decide +kernel
  have e2 : ofErr 4 = 0 := by decide +kernel
  rw [e1] at hr1
  rw [e1, e2]
  obtain ⟨bA, oA, u, rfl, _, hx, hc⟩ := hr1.at_ (k := 0) (by decide)
  obtain ⟨x, hx2, rfl⟩ := ints_get hx
  have hx3 : (258 : Int) = x := by injection hx2
  subst hx3
  clear hx hx2
  have hc0 : w1.cell? ⟨bA, oA, none⟩ = some (.int .u32 258) := hc
  clear hc
  have HB := Lib.hid (((Below.refl _ w).alloc (Nat.le_refl _) (.cells #[.int .u8 0, .int .u8 0, .int .u8 1, .int .u8 2] 5)).trans (hb1.mono (by simp)))
  clear hr1 hb1 e1 e2
  go_wp2_with fail
  refine (turn_any _ _ _).mono ?_
  rintro e w' ⟨rfl, rfl⟩
  have ht1 := HT1.out
  go_wp2_with fail
  refine (turn_any _ _ _).mono ?_
  rintro e w' ⟨rfl, rfl⟩
  have ht2 := HT2.out
  go_wp2
  go_ret
  exact ⟨rfl, HB.out⟩
end Go.Proofs.Ytbmebioakmlliaa
