/- The walk of WordBits. -/
import Derived.Test.YtbmebioakmlliaaWordAlive
import Derived.Deep.RegionHeld3
namespace Go.Proofs.Ytbmebioakmlliaa
open Go.RowKit
set_option maxHeartbeats 2000000 in
set_option maxRecDepth 100000 in
theorem wordBits_walk (x y z : Int) (A : Option Addr) (m c : Nat) (l : List Int) (k : Int) (w : World) (hx : 0 ≤ x ∧ x < 4294967296) (hy : 0 ≤ y ∧ y < 4294967296) (hz : 0 ≤ z ∧ z < 4294967296) (hr : Rd w w.heap.size 1 A m (ints .u32 l)) (_hl : ∀ x ∈ l, 0 ≤ x ∧ x < 4294967296) (hmc : m ≤ c) (_hk : -9223372036854775808 ≤ k ∧ k ≤ 9223372036854775807) :
    Calls Try.prog 7 #[.int .u32 x, .int .u32 y, .int .u32 z, .slice A m c, .int .i64 k] w fun e w' => e = .returned (.bool true) ∧ Below w.heap.size w w' := by
  have hcase : (500 < m ∨ (m ≤ 500 ∧ k < 0) ∨ (m ≤ 500 ∧ 0 ≤ k ∧ (m : Int) < k)) ∨ (m ≤ 500 ∧ 0 ≤ k ∧ k ≤ (m : Int)) := by omega
  rcases hcase with (h1 | ⟨h1, h2⟩ | ⟨h1, h2, h3⟩) | ⟨h1, h2, h3⟩
  · go_enter Try.func7, Try.ntmps7
    go_wp2_with fail
    refine (wordAlive_any _).mono ?_
    rintro e w1 ⟨rfl, hb1⟩
    go_wp2
    go_ret
    exact ⟨rfl, hb1⟩
  · go_enter Try.func7, Try.ntmps7
    go_wp2_with fail
    refine (wordAlive_any _).mono ?_
    rintro e w1 ⟨rfl, hb1⟩
    go_wp2
    go_ret
    exact ⟨rfl, hb1⟩
  · go_enter Try.func7, Try.ntmps7
    go_wp2_with fail
    refine (wordAlive_any _).mono ?_
    rintro e w1 ⟨rfl, hb1⟩
    go_wp2
    go_ret
    exact ⟨rfl, hb1⟩
  · obtain ⟨K, rfl⟩ := Int.eq_ofNat_of_zero_le h2
    have hKm : K ≤ m := by omega
    obtain ⟨A1, hc1, hd1⟩ := cut_u32s A m c K hKm
    obtain ⟨A2, hc2, hd2⟩ := front_u32s A m c K hKm hmc
    have f1 : (mostI x y z == chooseI x (bits .or .u32 y z) (bits .and .u32 y z)) = true := by rw [most_choose x y z hx hy hz]; simp
    have f2 : (oddI x y z == chooseI x (oddI 4294967295 y z) (oddI 0 y z)) = true := by rw [odd_choose x y z hx hy hz]; simp
    have f3 : (chooseI 4294967295 y z == y) = true := by rw [choose_ones y z hy hz]; simp
    have f4 : (chooseI 0 y z == z) = true := by rw [choose_zero y z hy hz]; simp
    have f5 : (mostI x x z == x) = true := by rw [most_same x z hx hz]; simp
    have HS1 := Lib.hid (sumI_turned l K)
    have HS2 := Lib.hid (sumI_two l K)
    have hll : l.length = m := by have := hr.1; simpa [ints] using this
    have HLL := Lib.hid hll
    clear hll _hk
    go_enter Try.func7, Try.ntmps7
    go_wp2_with fail
    refine (wordAlive_any _).mono ?_
    rintro e w1 ⟨rfl, hb1⟩
    go_wp2_with fail
    refine (most_any _ _ _ _).mono ?_
    rintro e w' ⟨rfl, rfl⟩
    go_wp2_with fail
    refine (choose_any _ _ _ _).mono ?_
    rintro e w' ⟨rfl, rfl⟩
    go_wp2_with fail
    refine (odd_any _ _ _ _).mono ?_
    rintro e w2 ⟨rfl, hb2⟩
    go_wp2_with fail
    refine (odd_any _ _ _ _).mono ?_
    rintro e w3 ⟨rfl, hb3⟩
    go_wp2_with fail
    refine (odd_any _ _ _ _).mono ?_
    rintro e w4 ⟨rfl, hb4⟩
    go_wp2_with fail
    refine (choose_any _ _ _ _).mono ?_
    rintro e w' ⟨rfl, rfl⟩
    go_wp2_with fail
    refine (choose_any _ _ _ _).mono ?_
    rintro e w' ⟨rfl, rfl⟩
    go_wp2_with fail
    refine (choose_any _ _ _ _).mono ?_
    rintro e w' ⟨rfl, rfl⟩
    go_wp2_with fail
    refine (most_any _ _ _ _).mono ?_
    rintro e w' ⟨rfl, rfl⟩
    have hs1 := hb1.size
    have hs2 := hb2.size
    have hs3 := hb3.size
    have hs4 := hb4.size
    have HB4 := Lib.hid (((hb1.trans (hb2.mono hs1)).trans (hb3.mono (Nat.le_trans hs1 hs2))).trans (hb4.mono (Nat.le_trans (Nat.le_trans hs1 hs2) hs3)))
    have hr4 := hr.below HB4.out (Nat.le_refl _)
    have hsw : w.heap.size ≤ w4.heap.size := HB4.out.size
    clear hb1 hb2 hb3 hb4 hr f1 f2 f3 f4 hs1 hs2 hs3 hs4
    obtain ⟨i0, hi0, hz0, hz1, hz2⟩ := info_parts info_u32
    have h0 : (w4.alloc (.cells #[] 22)).drew.ownsRow w4.heap.size 22 1 (.slice (some ⟨w4.heap.size, 0, none⟩) 0 0) 0 (ints .u32 []) := World.ownsRow_lit w4 #[] 0 (Nat.le_refl _) (by unfold maxLen; omega) rfl
    have ra : Rd (w4.alloc (.cells #[] 22)).drew w.heap.size 1 A m (ints .u32 l) := hr4.alloc hsw _
    have ed : (ints .u32 l).drop K = ints .u32 (l.drop K) := by simp [ints, List.map_drop]
    have et : (ints .u32 l).take K = ints .u32 (l.take K) := by simp [ints, List.map_take]
    have ra1 : Rd (w4.alloc (.cells #[] 22)).drew w.heap.size 1 A1 (m - K) (ints .u32 (l.drop K)) := by rw [← ed]; exact hd1 _ _ _ hmc ra
    have RT := Lib.hid (fun W (h : Rd W w.heap.size 1 A m (ints .u32 l)) => show Rd W w.heap.size 1 A2 K (ints .u32 (l.take K)) by rw [← et]; exact hd2 _ _ _ h)
    have RA1 := Lib.hid ra1
    have RA := Lib.hid ra
    have H0 := Lib.hid h0
    have b1 : 0 + (m - K) ≤ maxLen ∧ (0 + (m - K)) * 4 ≤ 140737488355328 := by unfold maxLen; omega
    have b2 : 0 + (m - K) + K ≤ maxLen ∧ (0 + (m - K) + K) * 4 ≤ 140737488355328 := by unfold maxLen; omega
    have b3 : w4.heap.size ≤ (w4.alloc (.cells #[] 22)).drew.heap.size := by simp
    have B1 := Lib.hid b1
    have B2 := Lib.hid b2
    have B3 := Lib.hid b3
    have HD1 := Lib.hid hd1
    clear h0 ra ed et ra1 hd1 hd2 b1 b2 b3
    go_wp2_with fail
    clear f5
    go_region_held3 (fun _ => True) (trivial)
      (first
        | (refine app_step _ rfl _ _ _ rfl w4.heap.size 22 i0 _ 1 4 Try.underlying23 hi0 hz0 hz1 hz2 rfl (by decide) v1 (0 + (m - K)) _ rfl ho1 w.heap.size A2 K c (ints .u32 (l.take K)) rfl (RT.out _ (RA.out.grown hg1 (Nat.le_trans hsw B3.out) (fun q hq => by have := H0.out.lt q hq; omega))) ints_one B2.out.1 B2.out.2 (Nat.le_trans B3.out hg1.size) ?_; intro v2 q2 ho2 hg2 hat2)
        | (refine app_step _ rfl _ _ _ rfl w4.heap.size 22 i0 _ 1 4 Try.underlying23 hi0 hz0 hz1 hz2 rfl (by decide) _ 0 (ints .u32 []) rfl H0.out w.heap.size A1 (m - K) (c - K) (ints .u32 (l.drop K)) rfl RA1.out ints_one B1.out.1 B1.out.2 B3.out ?_; intro v1 q1 ho1 hg1 hat1))
    have hg1' : (w4.alloc (.cells #[] 22)).drew.grownBy q1 (Value.slice (some ⟨w4.heap.size, 0, none⟩) 0 0).ownBlock := hg1
    have e0 : 0 + (m - K) + K = m := by omega
    have e1 : ints .u32 [] ++ ints .u32 (l.drop K) ++ ints .u32 (l.take K) = ints .u32 (l.drop K ++ l.take K) := by simp [ints]
    have HQ1 := Lib.hid (((HB4.out.alloc hsw (.cells #[] 22)).drew).grown hg1' (Nat.le_trans hsw B3.out) (fun q hq => by have := H0.out.lt q hq; omega))
    have HQ2 := Lib.hid (HQ1.out.grown hg2 HQ1.out.size (fun q hq => by have := ho1.lt q hq; omega))
    have hq2 : w.heap.size ≤ q2.heap.size := HQ2.out.size
    have hra := hr4.alloc hsw (.cells #[] 22)
    have hrq : Rd q2 w.heap.size 1 A m (ints .u32 l) := ((RA.out.grown hg1' (Nat.le_trans hsw B3.out) (fun q hq => by have := H0.out.lt q hq; omega))).grown hg2 HQ1.out.size (fun q hq => by have := ho1.lt q hq; omega)
    rw [e0, e1] at ho2
    obtain ⟨A3, c3, rfl⟩ := own_form ho2
    have hr2 := Rd.of_own ho2
    have RT2 := Lib.hid (fun W (h : Rd W w.heap.size 1 A m (ints .u32 l)) => show Rd W w.heap.size 1 A1 (m - K) (ints .u32 (l.drop K)) by
      have ed : (ints .u32 l).drop K = ints .u32 (l.drop K) := by simp [ints, List.map_drop]
      rw [← ed]; exact HD1.out _ _ _ hmc h)
    have HV : ∀ W, Ext q2.drew W → Rd W q2.heap.size 1 A3 m (ints .u32 (l.drop K ++ l.take K)) := fun W hW => hr2.drew.below hW (Nat.le_refl _)
    have HL : ∀ W, Ext q2.drew W → Rd W w.heap.size 1 A m (ints .u32 l) := fun W hW => hrq.drew.below hW hq2
    have HT : ∀ W, Ext q2.drew W → Rd W w.heap.size 1 A2 K (ints .u32 (l.take K)) := fun W hW => RT.out W (HL W hW)
    have HD : ∀ W, Ext q2.drew W → Rd W w.heap.size 1 A1 (m - K) (ints .u32 (l.drop K)) := fun W hW => RT2.out W (HL W hW)
    clear hg1 hat1 hg2 hat2 ho1 ho2 hra hrq hr2 RA RA1 H0 hr4 hg1' e0 e1
    go_wp2_with fail
    refine wp_region_typed rfl (by kernel_rfl) (by kernel_rfl) ?_
    refine tw_as (.inl (.bool true)) (stable_is _) (.inl rfl) rfl (fun _ _ => rfl) (wd_none rfl) ?_
    refine tw_move (.inl (.bool true)) (stable_is _) (.inl rfl) rfl (wd_none rfl) ?_
    refine tw_as (.inl (.bool true)) (stable_is _) (.inl rfl) rfl (fun _ _ => rfl) (wd_yes rfl rfl rfl) ?_
    refine tw_two (s := 93) (t := 94) (.bool true) (by decide) (by decide) rfl rfl (wd_none rfl) (fun ρ W h1 h2 h3 => by simp only [execOp, h1, h2, h3]; go_simp) ?_
    refine tw_move (.inl (.bool true)) (stable_is _) (.inl rfl) rfl (wd_none rfl) ?_
    refine tw_as (.inl (.slice A3 m c3)) (stable_is _) (.inl rfl) rfl (fun _ _ => rfl) (wd_yes rfl rfl rfl) ?_
    refine tw_call (.inl (.int .u32 (sumI (l.drop K ++ l.take K)))) (stable_is _) (wd_yes rfl rfl rfl) (fun a W hW hs => ?_) ?_
    · have ex : a.tmps.getD 97 undef = .slice A3 m c3 := hs 97 (by decide)
      refine ⟨26, #[.slice A3 m c3], by simp only [execOp, resolve, Act.eval]; go_simp, ?_⟩
      refine (sum_any _ _ _ _ (l.drop K ++ l.take K) W (by omega) (HV W hW)).mono ?_
      rintro e w' ⟨rfl, rfl⟩
      exact ⟨_, rfl, Ext.refl _, rfl⟩
    refine tw_as (.inl (.slice A m c)) (stable_is _) (.inl rfl) rfl (fun _ _ => rfl) (wd_yes rfl rfl rfl) ?_
    refine tw_call (.inl (.int .u32 (sumI l))) (stable_is _) (wd_yes rfl rfl rfl) (fun a W hW hs => ?_) ?_
    · have ex : a.tmps.getD 99 undef = .slice A m c := hs 99 (by decide)
      refine ⟨26, #[.slice A m c], by simp only [execOp, resolve, Act.eval]; go_simp, ?_⟩
      refine (sum_any _ _ _ _ l W (by omega) (HL W hW)).mono ?_
      rintro e w' ⟨rfl, rfl⟩
      exact ⟨_, rfl, Ext.refl _, rfl⟩
    rw [HS1.out]
    refine tw_two (s := 98) (t := 100) (.bool true) (by decide) (by decide) rfl rfl (wd_yes rfl rfl rfl) (fun ρ W h1 h2 h3 => by simp only [execOp, h1, h2]; go_simp) ?_
    refine tw_two (s := 96) (t := 101) (.bool true) (by decide) (by decide) rfl rfl (wd_none rfl) (fun ρ W h1 h2 h3 => by simp only [execOp, h1, h2, h3]; go_simp) ?_
    refine tw_move (.inl (.bool true)) (stable_is _) (.inl rfl) rfl (wd_none rfl) ?_
    refine tw_as (.inl (.slice A m c)) (stable_is _) (.inl rfl) rfl (fun _ _ => rfl) (wd_yes rfl rfl rfl) ?_
    refine tw_as (.inl (.int .i64 (K : Int))) (stable_is _) (.inl rfl) rfl (fun _ _ => rfl) (wd_yes rfl rfl rfl) ?_
    refine tw_two (s := 104) (t := 105) (.slice A2 K c) (by decide) (by decide) rfl rfl (wd_yes rfl rfl rfl) (fun ρ W h1 h2 h3 => by simp only [execOp, h1]; go_simp) ?_
    refine tw_call (.inl (.int .u32 (sumI (l.take K)))) (stable_is _) (wd_yes rfl rfl rfl) (fun a W hW hs => ?_) ?_
    · have ex : a.tmps.getD 106 undef = .slice A2 K c := hs 106 (by decide)
      refine ⟨26, #[.slice A2 K c], by simp only [execOp, resolve, Act.eval]; go_simp, ?_⟩
      refine (sum_any _ _ _ _ (l.take K) W (by omega) (HT W hW)).mono ?_
      rintro e w' ⟨rfl, rfl⟩
      exact ⟨_, rfl, Ext.refl _, rfl⟩
    refine tw_as (.inl (.slice A m c)) (stable_is _) (.inl rfl) rfl (fun _ _ => rfl) (wd_yes rfl rfl rfl) ?_
    refine tw_as (.inl (.int .i64 (K : Int))) (stable_is _) (.inl rfl) rfl (fun _ _ => rfl) (wd_yes rfl rfl rfl) ?_
    refine tw_two (s := 108) (t := 109) (.slice A1 (m - K) (c - K)) (by decide) (by decide) rfl rfl (wd_yes rfl rfl rfl) (fun ρ W h1 h2 h3 => by simp only [execOp, h1]; go_simp) ?_
    refine tw_call (.inl (.int .u32 (sumI (l.drop K)))) (stable_is _) (wd_yes rfl rfl rfl) (fun a W hW hs => ?_) ?_
    · have ex : a.tmps.getD 110 undef = .slice A1 (m - K) (c - K) := hs 110 (by decide)
      refine ⟨26, #[.slice A1 (m - K) (c - K)], by simp only [execOp, resolve, Act.eval]; go_simp, ?_⟩
      refine (sum_any _ _ _ _ (l.drop K) W (by omega) (HD W hW)).mono ?_
      rintro e w' ⟨rfl, rfl⟩
      exact ⟨_, rfl, Ext.refl _, rfl⟩
    refine tw_val (SlT .u32 [sumI (l.take K), sumI (l.drop K)]) (stable_sl _ _) (wd_yes rfl rfl rfl) (fun a W hW hs => ?_) ?_
    · have e1 : a.tmps.getD 107 undef = .int .u32 (sumI (l.take K)) := hs 107 (by decide)
      have e2 : a.tmps.getD 111 undef = .int .u32 (sumI (l.drop K)) := hs 111 (by decide)
      rw [Array.getD_eq_getD_getElem?] at e1 e2
      refine ⟨.slice (some ⟨W.heap.size, 0, none⟩) 2 2, W.alloc (.cells #[.int .u32 (sumI (l.take K)), .int .u32 (sumI (l.drop K))] 22), by simp only [execOp, Act.eval]; go_simp, (Below.refl _ W).alloc (Nat.le_refl _) _, _, _, rfl, ?_⟩
      have := Rd.new W 22 #[.int .u32 (sumI (l.take K)), .int .u32 (sumI (l.drop K))] (s := 1) (n := 2) rfl
      simpa [ints] using this
    refine tw_call (.inl (.int .u32 (sumI [sumI (l.take K), sumI (l.drop K)]))) (stable_is _) (wd_yes rfl rfl rfl) (fun a W hW hs => ?_) ?_
    · obtain ⟨Ax, cx, ex, hx⟩ := hs 112 (by decide)
      refine ⟨26, #[.slice Ax 2 cx], by simp only [execOp, resolve, Act.eval]; go_simp, ?_⟩
      refine (sum_any _ _ _ _ _ W (by simp) hx).mono ?_
      rintro e w' ⟨rfl, rfl⟩
      exact ⟨_, rfl, Ext.refl _, rfl⟩
    rw [HS2.out]
    refine tw_as (.inl (.slice A m c)) (stable_is _) (.inl rfl) rfl (fun _ _ => rfl) (wd_yes rfl rfl rfl) ?_
    refine tw_call (.inl (.int .u32 (sumI l))) (stable_is _) (wd_yes rfl rfl rfl) (fun a W hW hs => ?_) ?_
    · have ex : a.tmps.getD 114 undef = .slice A m c := hs 114 (by decide)
      refine ⟨26, #[.slice A m c], by simp only [execOp, resolve, Act.eval]; go_simp, ?_⟩
      refine (sum_any _ _ _ _ l W (by omega) (HL W hW)).mono ?_
      rintro e w' ⟨rfl, rfl⟩
      exact ⟨_, rfl, Ext.refl _, rfl⟩
    refine tw_two (s := 113) (t := 115) (.bool true) (by decide) (by decide) rfl rfl (wd_yes rfl rfl rfl) (fun ρ W h1 h2 h3 => by simp only [execOp, h1, h2]; go_simp) ?_
    refine tw_two (s := 103) (t := 116) (.bool true) (by decide) (by decide) rfl rfl (wd_none rfl) (fun ρ W h1 h2 h3 => by simp only [execOp, h1, h2, h3]; go_simp) ?_
    refine tw_move (.inl (.bool true)) (stable_is _) (.inr rfl) rfl (wd_none rfl) ?_
    dsimp only [wpT, List.reverse, List.reverseAux, FinT, SlT]
    intro v3 W hW _
    have HF := Lib.hid (HQ2.out.drew.trans (Below.mono hW hq2))
    clear HV HL HT HD hW
    simp only [Act.put, List.setIfInBounds_toArray, List.set_cons_zero, List.set_cons_succ]
    go_wp2
    go_ret
    exact ⟨rfl, HF.out⟩
end Go.Proofs.Ytbmebioakmlliaa
