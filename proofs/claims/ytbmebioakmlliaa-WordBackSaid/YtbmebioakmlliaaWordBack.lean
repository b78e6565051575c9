/- The walk of WordBack. -/
import Derived.Test.YtbmebioakmlliaaWordAlive
namespace Go.Proofs.Ytbmebioakmlliaa
open Go.RowKit
set_option maxHeartbeats 2000000 in
set_option maxRecDepth 10000 in
theorem wordBack_walk (A : Option Addr) (m c : Nat) (l : List Int) (A' : Option Addr) (n c' : Nat) (b : List Int) (w : World) (hr : Rd w w.heap.size 1 A m (ints .u32 l)) (hl : ∀ x ∈ l, 0 ≤ x ∧ x < 4294967296) (hr' : Rd w w.heap.size 1 A' n (ints .u8 b)) (hb : ∀ x ∈ b, 0 ≤ x ∧ x < 256) :
    Calls Try.prog 5 #[.slice A m c, .slice A' n c'] w fun e w' => e = .returned (.bool true) ∧ Below w.heap.size w w' := by
  have hcase : (500 < m ∨ (m ≤ 500 ∧ 2000 < n)) ∨ (m ≤ 500 ∧ n ≤ 2000) := by omega
  rcases hcase with (h1 | ⟨h1, h2⟩) | ⟨h1, h2⟩
  · go_enter Try.func5, Try.ntmps5
    go_wp2_with fail
    refine (wordAlive_any _).mono ?_
    rintro e w1 ⟨rfl, hb1⟩
    go_wp2
    go_ret
    exact ⟨rfl, hb1⟩
  · go_enter Try.func5, Try.ntmps5
    go_wp2_with fail
    refine (wordAlive_any _).mono ?_
    rintro e w1 ⟨rfl, hb1⟩
    go_wp2
    go_ret
    exact ⟨rfl, hb1⟩
  · have hbl : b.length = n := by have := hr'.1; simpa [ints] using this
    have hll : l.length = m := by have := hr.1; simpa [ints] using this
    have HBL := Lib.hid hbl
    have HLL := Lib.hid hll
    have HW := Lib.hid (ofWds_bytesL l hl (by omega))
    have HE : Hid (ofErr (4 * m) = 0) := by show _ = _; unfold ofErr; rw [if_neg (by omega), if_pos (by omega)]
    have HBT := Lib.hid (bytesL_length l)
    clear hbl hll
    go_enter Try.func5, Try.ntmps5
    go_wp2_with fail
    refine (wordAlive_any _).mono ?_
    rintro e w1 ⟨rfl, hb1⟩
    have hr1 := hr.below hb1 (Nat.le_refl _)
    have hr1' := hr'.below hb1 (Nat.le_refl _)
    have hs1 := hb1.size
    clear hr hr'
    go_wp2_with fail
    refine (bytes_any A m c w.heap.size l _ (by omega) hs1 hl hr1).mono ?_
    rintro e w2 ⟨v, rfl, hown, hb2⟩
    obtain ⟨A2, c2, rfl⟩ := own_form hown
    have hr2 := Rd.of_own hown
    have hr2l := hr1.below hb2 hs1
    have hr2b := hr1'.below hb2 hs1
    have hs2 := hb2.size
    have HB2 := Lib.hid (hb1.trans (hb2.mono hs1))
    clear hr1 hr1' hown hb1 hb2
    go_wp2_with fail
    refine (of_all A2 (4 * m) c2 w2.heap.size (bytesL l) _ (Nat.le_refl _) (bytesL_bd l) hr2).mono ?_
    rw [HW.out, HE.out]
    rintro e w3 ⟨A3, c3, rfl, hr3, hb3⟩
    rw [HLL.out] at hr3
    rw [HLL.out]
    have hr3l := hr2l.below hb3 (by omega)
    have hr3b := hr2b.below hb3 (by omega)
    have hs3 := hb3.size
    have HB3 := Lib.hid (HB2.out.trans (hb3.mono (by omega)))
    clear hr2 hr2l hr2b hb3 HB2
    go_wp2_with fail
    refine (same_any A3 A m c3 m c _ _ l l _ (by omega) (by omega) hr3 hr3l).mono ?_
    rintro e w4 ⟨rfl, nd, rfl⟩
    have hr4 := (hr3b.drewN nd).more (show w.heap.size ≤ (w3.drewN nd).heap.size by show w.heap.size ≤ w3.heap.size; omega)
    clear hr3 hr3l
    go_wp2_with fail
    refine (of_all A' n c' _ b _ (Nat.le_refl _) hb hr4).mono ?_
    rintro e w5 ⟨A5, c5, rfl, hr5, hb5⟩
    by_cases h4 : n % 4 = 0
    · have e2 : ofErr n = 0 := by unfold ofErr; rw [if_neg (by omega), if_pos h4]
      rw [e2]
      clear e2
      have HK := Lib.hid (bytesL_ofWds hb (by rw [HBL.out]; omega) (by rw [HBL.out]; exact h4))
      have hkl := ofWds_len b
      have HKR := Lib.hid (ofWds_bd hb)
      generalize ofWds b = ks at *
      have hs5 := hb5.size
      have hr5b := hr4.below hb5 (Nat.le_refl _)
      have HF := Lib.hid ((below_drewN HB3.out nd).trans (hb5.mono (show w.heap.size ≤ w3.heap.size by omega)))
      have hsw : w.heap.size ≤ w5.heap.size := HF.out.size
      clear hr4 hr3b hb5
      go_wp2_with fail
      have HX : ∀ W, Ext w5.drew W → Ty.of (SlT .u32 ks) (.slice A5 ks.length c5) W := fun W hW => ⟨_, _, rfl, (hr5.drew.below hW (Nat.le_refl _)).more hW.size⟩
      have HB : ∀ W, Ext w5.drew W → Ty.of (SlT .u8 b) (.slice A' n c') W := fun W hW => ⟨_, _, by rw [HBL.out], by
        rw [HBL.out]
        exact (hr5b.drew.below hW hs5).more (Nat.le_trans hs5 hW.size)⟩
      have hbt := bytesL_length ks
      refine wp_region_typed rfl (by kernel_rfl) (by kernel_rfl) ?_
      refine tw_as (.inl (.bool true)) (stable_is _) (.inl rfl) rfl (fun _ _ => rfl) (wd_none rfl) ?_
      refine tw_move (.inl (.bool true)) (stable_is _) (.inl rfl) rfl (wd_none rfl) ?_
      refine tw_as (SlT .u32 ks) (stable_sl _ _) (.inl rfl) rfl HX (wd_yes rfl rfl rfl) ?_
      refine tw_call (SlT .u8 (bytesL ks)) (stable_sl _ _) (wd_yes rfl rfl rfl) (fun a W hW hs => ?_) ?_
      · obtain ⟨Ax, cx, ex, hx⟩ := hs 69 (by decide)
        refine ⟨37, #[.slice Ax ks.length cx], by simp only [execOp, resolve, Act.eval]; go_simp, ?_⟩
        refine (bytes_any _ _ _ _ ks W (by omega) (Nat.le_refl _) HKR.out hx).mono ?_
        rintro e w' ⟨v, rfl, hown, hbw⟩
        obtain ⟨Av, cv, rfl⟩ := own_form hown
        exact ⟨_, rfl, hbw, Av, cv, by rw [hbt], by rw [hbt]; exact Rd.of_own hown⟩
      refine tw_conv (bytesL ks) rfl rfl (wd_yes rfl rfl rfl) ?_
      refine tw_as (SlT .u8 b) (stable_sl _ _) (.inl rfl) rfl HB (wd_yes rfl rfl rfl) ?_
      refine tw_conv b rfl rfl (wd_yes rfl rfl rfl) ?_
      rw [HK.out]
      refine tw_two (s := 71) (t := 73) (.bool true) (by decide) (by decide) rfl rfl (wd_yes rfl rfl rfl) (fun ρ W h1 h2 h3 => by simp only [execOp, h1, h2]; go_simp) ?_
      refine tw_two (s := 68) (t := 74) (.bool true) (by decide) (by decide) rfl rfl (wd_none rfl) (fun ρ W h1 h2 h3 => by simp only [execOp, h1, h2, h3]; go_simp) ?_
      refine tw_move (.inl (.bool true)) (stable_is _) (.inr rfl) rfl (wd_none rfl) ?_
      dsimp only [wpT, List.reverse, List.reverseAux, FinT, SlT]
      intro v1 v2 v3 W hW _
      have HF2 := Lib.hid (HF.out.drew.trans (Below.mono hW hsw))
      clear HX HB hr5 hr5b hW hbt
      simp only [Act.put, List.setIfInBounds_toArray, List.set_cons_zero, List.set_cons_succ]
      go_wp2
      go_ret
      exact ⟨rfl, HF2.out⟩
    · have e2 : ofErr n = 2 := by unfold ofErr; rw [if_neg (by omega), if_neg h4]
      have e3 : ofWds b = [] := by unfold ofWds; rw [if_neg (by rw [HBL.out]; omega)]
      have hne : ((n : Int) % 4 != 0) = true := by rw [bne_iff_ne]; omega
      rw [e2, e3]
      have HF := Lib.hid ((below_drewN HB3.out nd).trans (hb5.mono (show w.heap.size ≤ w3.heap.size by omega)))
      clear e2 e3 hr3b hr4 hr5 hb5
      go_wp2
      go_ret
      exact ⟨rfl, HF.out⟩
end Go.Proofs.Ytbmebioakmlliaa
