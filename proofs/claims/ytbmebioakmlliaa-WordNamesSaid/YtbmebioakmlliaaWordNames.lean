/- The walk of WordNames. -/
import Derived.Test.YtbmebioakmlliaaWordAlive
namespace Go.Proofs.Ytbmebioakmlliaa
open Go.RowKit
theorem strOf_0012 : strOfNums (bytesL [258]) = ⟨#[0, 0, 1, 2]⟩ := by decide +kernel
set_option maxHeartbeats 2000000 in
set_option maxRecDepth 100000 in
theorem wordNames_walk (w : World) :
    Calls Try.prog 8 #[] w fun e w' => e = .returned (.bool true) ∧ Below w.heap.size w w' := by
  obtain ⟨i0, hi, hz0, hz1, hz2⟩ := info_parts info_u8
  have hmk : ∀ W : World, ∃ w', (Instr.makeSlice 29 (.int .i64 16388) (.int .i64 16388)).run Try.prog W = .ok (.slice (some ⟨W.heap.size, 0, none⟩) 16388 16388) w' ∧ W.grownBy w' none := fun W => by
    obtain ⟨w', h1, _, h3⟩ := run_make_full (P := Try.prog) W W.heap.size 29 5 i0 (.int .u8 0) 1 Try.underlying29 hi hz0 hz1 .i64 .i64 16388 (by rw [hz2]; decide) (by unfold maxLen; decide) (Nat.le_refl _)
    exact ⟨w', h1, h3⟩
  have c1 : (chooseI 12 10 9 == 9) = true := by decide +kernel
  have c2 : (oddI 12 10 9 == 15) = true := by decide +kernel
  have c3 : (mostI 12 10 9 == 8) = true := by decide +kernel
  have r1 : ∀ W : World, Rd (W.alloc (.cells #[.int .u8 1] 5)) (W.heap.size + 1) 1 (some ⟨W.heap.size, 0, none⟩) 1 (ints .u8 [1]) := fun W => rd_int1 W _ _ _
  have C1 := Lib.hid c1
  have C2 := Lib.hid c2
  have C3 := Lib.hid c3
  have HM := Lib.hid hmk
  clear c1 c2 c3 hmk r1
  go_enter Try.func8, Try.ntmps8
  go_wp2_with fail
  refine (of_arg _ 1 1 _ (by omega) (by omega)).mono ?_
  rintro e w1 ⟨rfl, rfl⟩
  obtain ⟨w2, hrun, hgr⟩ := HM.out (w.alloc (.cells #[.int .u8 1] 5))
  have hb2 : Below w.heap.size w w2 := ((Below.refl _ w).alloc (Nat.le_refl _) _).grown hgr (by simp) (by simp)
  have HB2 := Lib.hid hb2
  have hs2 := hb2.size
  clear hgr hb2
  go_wp2_with fail
  refine (of_many _ 16388 16388 _ (by omega)).mono ?_
  rintro e w' ⟨rfl, rfl⟩
  clear hrun
  go_wp2_with fail
  refine (of_ok none 0 0 0 w2.heap.size [] _ (by omega) rfl (Nat.le_refl _) (by intro x hx; cases hx) Rd.none_).mono ?_
  rintro e w3 ⟨v3, rfl, hown3, hb3⟩
  obtain ⟨A3, c3, rfl⟩ := own_form hown3
  have HB3 := Lib.hid (HB2.out.trans (hb3.mono hs2))
  have hs3 := hb3.size
  clear hown3 hb3
  go_wp2_with fail
  refine (bytes_any _ 1 1 (w3.heap.size + 1) [258] _ (by omega) (by simp) (by intro x hx; simp at hx; omega) (rd_int1 w3 _ _ _)).mono ?_
  rintro e w4 ⟨v4, rfl, hown4, hb4⟩
  obtain ⟨A4, c4, rfl⟩ := own_form hown4
  have hr4 : Rd w4 w4.heap.size 1 A4 4 (ints .u8 (bytesL [258])) := Rd.of_own hown4
  have HB4 := Lib.hid ((HB3.out.alloc (by omega) (.cells #[.int .u32 258] 22)).trans (hb4.mono (by simp; omega)))
  have hs4 := hb4.size
  simp only [World.size_alloc] at hs4
  clear hown4 hb4
  go_wp2_with fail
  refine (choose_any _ _ _ _).mono ?_
  rintro e w' ⟨rfl, rfl⟩
  have c1 := C1.out
  go_wp2_with fail
  refine (odd_any _ _ _ _).mono ?_
  rintro e w5 ⟨rfl, hb5⟩
  have c2 := C2.out
  go_wp2_with fail
  refine (most_any _ _ _ _).mono ?_
  rintro e w' ⟨rfl, rfl⟩
  have c3 := C3.out
  have hr5 : Rd w5 w5.heap.size 1 A4 4 (ints .u8 (bytesL [258])) := (hr4.below hb5 (Nat.le_refl _)).more hb5.size
  have HB5 := Lib.hid (HB4.out.trans (hb5.mono (by omega)))
  have hs5 : w.heap.size ≤ w5.heap.size := HB5.out.size
  clear hb5 hr4
  go_wp2_with fail
  clear c1 c2 c3
  refine (wordAlive_any w5).mono ?_
  rintro e w6 ⟨rfl, hb6⟩
  have hr6 := (hr5.below hb6 (Nat.le_refl _)).more hb6.size
  have HB6 := Lib.hid (HB5.out.trans (hb6.mono hs5))
  have hs6 : w.heap.size ≤ w6.heap.size := HB6.out.size
  have hc6 := conv_rd (c := c4) hr6
  rw [strOf_0012] at hc6
  clear hb6 hr5
  go_wp2_with fail
  refine (sum_any (some ⟨w6.heap.size, 0, none⟩) 2 2 (w6.heap.size + 1) [4294967295, 2] _ (by simp) (Rd.new w6 22 #[.int .u32 4294967295, .int .u32 2] (s := 1) (n := 2) rfl)).mono ?_
  rintro e w' ⟨rfl, rfl⟩
  rw [show sumI [4294967295, 2] = 1 from by decide +kernel]
  go_wp2_with fail
  refine (sum_any none 0 0 0 [] _ (by omega) Rd.none_).mono ?_
  rintro e w' ⟨rfl, rfl⟩
  rw [show sumI [] = 0 from rfl]
  go_wp2
  go_ret
  exact ⟨rfl, HB6.out.alloc hs6 _⟩
end Go.Proofs.Ytbmebioakmlliaa
