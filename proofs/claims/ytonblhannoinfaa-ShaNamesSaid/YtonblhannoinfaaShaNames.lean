/- The walk of ShaNames. -/
import Derived.Test.YtonblhannoinfaaShaAlive
namespace Go.Proofs.Ytonblhannoinfaa
open Go.RowKit
theorem pad_lit (n : Int) (l : List Int) (m : Nat) (e : Int) (hn0 : -9223372036854775808 ≤ n) (hn1 : n ≤ 9223372036854775807) (h1 : padErr n = e) (h2 : padO n = l) (h3 : l.length = m) (w : World) :
    Calls Try.prog 33 #[.int .i64 n] w fun x w' => ∃ A c, x = .returned (.tuple #[.slice A m c, .int .i64 e]) ∧ Rd w' w'.heap.size 1 A m (ints .u8 l) ∧ Below w.heap.size w w' := by
  subst h1 h2 h3
  refine (pad_any n w hn0 hn1).mono ?_
  rintro x w' ⟨A, c, h, hr, hb, _⟩
  exact ⟨A, c, h, hr, hb⟩
theorem shaTwo (w : World) : Calls Try.prog 35 #[.string ⟨ "abcdbcdecdefdefgefghfghighijhijkijkljklmklmnlmnomnopnopq".toUTF8.data⟩, .string ⟨ "84983e441c3bd26ebaae4aa1f95129e5e54670f1".toUTF8.data⟩] w fun e w' => e = .returned (.bool true) ∧ Below w.heap.size w w' :=
  is_sha _ _ (by decide +kernel) (by decide +kernel) w
set_option maxHeartbeats 4000000 in
set_option maxRecDepth 100000 in
theorem shaNames_walk (w : World) :
    Calls Try.prog 10 #[] w fun e w' => e = .returned (.bool true) ∧ Below w.heap.size w w' := by
  obtain ⟨i0, hi, hz0, hz1, hz2⟩ := info_parts info_u8
  have hmk : ∃ w', (Instr.makeSlice 28 (.int .i64 16385) (.int .i64 16385)).run Try.prog w = .ok (.slice (some ⟨w.heap.size, 0, none⟩) 16385 16385) w' ∧ w.grownBy w' none := by
    obtain ⟨w', h1, _, h3⟩ := run_make_full (P := Try.prog) w w.heap.size 28 5 i0 (.int .u8 0) 1 Try.underlying28 hi hz0 hz1 .i64 .i64 16385 (by rw [hz2]; decide) (by unfold maxLen; decide) (Nat.le_refl _)
    exact ⟨w', h1, h3⟩
  obtain ⟨w1, hrun, hgr⟩ := hmk
  have HB1 := Lib.hid ((Below.refl w.heap.size w).grown hgr (Nat.le_refl _) (by simp))
  have hO : ∀ b : List Int, b.length = 16385 → shaErr b.length = 4 ∧ shaO b = List.replicate 20 0 := fun b hb => ⟨by unfold shaErr; rw [if_pos (by omega)], by unfold shaO; rw [if_pos (by omega)]⟩
  obtain ⟨z, hz⟩ : ∃ z : List Int, z.length = 16385 := ⟨List.replicate 16385 0, List.length_replicate⟩
  have HO := Lib.hid (hO z hz)
  have HOF := Lib.hid (of_many_sha (some ⟨w.heap.size, 0, none⟩) 16385 16385 w1.heap.size z w1 (Nat.le_refl _) hz (by omega) (by omega))
  have P1 := Lib.hid (pad_lit 16385 [] 0 4 (by omega) (by omega) (by decide) (by decide) rfl)
  have P2 := Lib.hid (pad_lit (-1) [] 0 4 (by omega) (by omega) (by decide) (by decide) rfl)
  have P3 := Lib.hid (pad_lit 55 [128, 0, 0, 0, 0, 0, 0, 1, 184] 9 0 (by omega) (by omega) (by decide) (by decide +kernel) rfl)
  have P4 := Lib.hid (pad_lit 56 (padL 56) 72 0 (by omega) (by omega) (by decide) (by decide +kernel) (by decide +kernel))
  have HC : Hid (strOfNums [128, 0, 0, 0, 0, 0, 0, 1, 184] = ⟨#[128, 0, 0, 0, 0, 0, 0, 1, 184]⟩) := by show _ = _; decide +kernel
  have HT := Lib.hid shaTwo
  clear hgr hO hz
  go_enter Try.func10, Try.ntmps10
  go_wp2_with fail
  refine HOF.out.mono ?_
  rintro e w2 ⟨rfl, hb2⟩
  rw [HO.out.1]
  have HZL := Lib.hid (shaO_length z)
  clear HO
  generalize shaO z = Z at *
  have HB2 := Lib.hid (HB1.out.trans (hb2.mono HB1.out.size))
  have hs2 := HB2.out.size
  clear hrun hb2
  go_upto_region 2 with (refine wpList_store_row rfl 43 (.tmp 1) (.tmp 15) rfl w2.heap.size (ints .u8 Z).toArray rfl rfl _ _ (heap_alloc_new w2 _) (size20 HZL.out) (old20 HZL.out) (ints_all_one _ _) ?_)
  rw [zero20]
  obtain ⟨h53, hx3⟩ := new20 w2 Z
  generalize (w2.alloc (.cells (ints .u8 (List.replicate 20 0)).toArray 43)).setRow w2.heap.size (ints .u8 Z).toArray = w3 at *
  have HB3 := Lib.hid (HB2.out.trans (hx3.mono hs2))
  have hs3 := HB3.out.size
  clear h53 hx3
  go_wp2_with fail
  refine (P1.out _).mono ?_
  rintro e w4 ⟨A4, c4, rfl, _, hb4⟩
  have HB4 := Lib.hid (HB3.out.trans (hb4.mono hs3))
  have hs4 := HB4.out.size
  clear hb4
  go_wp2_with fail
  refine (P2.out _).mono ?_
  rintro e w5 ⟨A5, c5, rfl, _, hb5⟩
  have HB5 := Lib.hid (HB4.out.trans (hb5.mono hs4))
  have hs5 := HB5.out.size
  clear hb5
  go_wp2_with fail
  refine (P3.out _).mono ?_
  rintro e w6 ⟨A6, c6, rfl, hr6, hb6⟩
  have HB6 := Lib.hid (HB5.out.trans (hb6.mono hs5))
  have hs6 := HB6.out.size
  have HR6 := Lib.hid hr6
  clear hb6 hr6
  go_wp2_with fail
  refine (P4.out _).mono ?_
  rintro e w7 ⟨A7, c7, rfl, _, hb7⟩
  have HB7 := Lib.hid (HB6.out.trans (hb7.mono hs6))
  have HR7 := Lib.hid ((HR6.out.below hb7 (Nat.le_refl _)).more hb7.size)
  have hs7 := HB7.out.size
  clear hb7 HR6
  go_wp2_with fail
  refine (HT.out _).mono ?_
  rintro e w8 ⟨rfl, hb8⟩
  have HB8 := Lib.hid (HB7.out.trans (hb8.mono hs7))
  have HR8 := Lib.hid ((HR7.out.below hb8 (Nat.le_refl _)).more hb8.size)
  have hs8 := HB8.out.size
  clear hb8 HR7
  go_wp2_with fail
  refine (shaAlive_any w8).mono ?_
  rintro e w9 ⟨rfl, hb9⟩
  have HB9 := Lib.hid (HB8.out.trans (hb9.mono hs8))
  have hr9 := (HR8.out.below hb9 (Nat.le_refl _)).more hb9.size
  have hcv := conv_rd (c := c6) hr9
  rw [HC.out] at hcv
  clear hb9 HR8 hr9
  go_wp2
  go_ret
  exact ⟨rfl, HB9.out⟩
end Go.Proofs.Ytonblhannoinfaa
