/- The walk of WordReads. -/
import Derived.Test.YtbmebioakmlliaaWordOf
namespace Go.Proofs.Ytbmebioakmlliaa
open Go.RowKit
set_option maxHeartbeats 1000000 in
set_option maxRecDepth 10000 in
theorem wordReads_walk (A : Option Addr) (n c : Nat) (b : List Int) (A' : Option Addr) (m c' : Nat) (l : List Int) (w : World) (hr : Rd w w.heap.size 1 A n (ints .u8 b)) (hb : ∀ x ∈ b, 0 ≤ x ∧ x < 256) (hr' : Rd w w.heap.size 1 A' m (ints .u32 l)) (hl : ∀ x ∈ l, 0 ≤ x ∧ x < 4294967296) :
    Calls Try.prog 4 #[.slice A n c, .slice A' m c'] w fun e w' => e = .returned (.bool true) ∧ Below w.heap.size w w' := by
  have hcase : ((2000 < n ∧ n ≤ 16384) ∨ 17000 < n ∨ (n ≤ 2000 ∧ 500 < m) ∨ (16384 < n ∧ n ≤ 17000 ∧ 500 < m)) ∨ (n ≤ 2000 ∧ m ≤ 500) ∨ (16384 < n ∧ n ≤ 17000 ∧ m ≤ 500) := by omega
  rcases hcase with (⟨h1, h2⟩ | h1 | ⟨h1, h2⟩ | ⟨h1, h2, h3⟩) | hcase
  · go_enter Try.func4, Try.ntmps4
    go_wp2
    go_ret
    exact ⟨rfl, Below.refl _ _⟩
  · go_enter Try.func4, Try.ntmps4
    go_wp2
    go_ret
    exact ⟨rfl, Below.refl _ _⟩
  · go_enter Try.func4, Try.ntmps4
    go_wp2
    go_ret
    exact ⟨rfl, Below.refl _ _⟩
  · go_enter Try.func4, Try.ntmps4
    go_wp2
    go_ret
    exact ⟨rfl, Below.refl _ _⟩
  · have h0 : (w.alloc (.cells #[] 5)).ownsRow w.heap.size 5 1 (.slice (some ⟨w.heap.size, 0, none⟩) 0 0) 0 (ints .u8 []) := World.ownsRow_lit w #[] 0 (Nat.le_refl _) (by unfold maxLen; omega) rfl
    have hcap : w.heap.size ≤ (w.alloc (.cells #[] 5)).heap.size := by simp
    have hbl : b.length = n := by have := hr.1; simpa [ints] using this
    have hll : l.length = m := by have := hr'.1; simpa [ints] using this
    have HBL := Lib.hid hbl
    have HLL := Lib.hid hll
    clear hbl hll
    rcases hcase with ⟨h1, h2⟩ | ⟨h1, h2, h3⟩
    all_goals
      go_enter Try.func4, Try.ntmps4
      go_wp2_with (at_builtin; refine app_u8s rfl _ _ rfl w.heap.size _ _ _ rfl h0 w.heap.size _ _ _ b rfl (hr.alloc (Nat.le_refl _) _) (by omega) hcap ?_)
      intro v w1 hown hg1 _
      obtain ⟨A1, c1, rfl⟩ := own_form hown
      have hB1 : Below w.heap.size w w1 := ((Below.refl _ w).alloc (Nat.le_refl _) _).grown hg1 (by simp) (by intro k hk; simp [Value.ownBlock] at hk; omega)
      have hr1 : Rd w1 w1.heap.size 1 A1 n (ints .u8 b) := Rd.of_own hown
      have hr2 : Rd w1 w.heap.size 1 A n (ints .u8 b) := hr.below hB1 (Nat.le_refl _)
      have hr3 : Rd w1 w.heap.size 1 A' m (ints .u32 l) := hr'.below hB1 (Nat.le_refl _)
      have HB1 := Lib.hid hB1
      have hs1 := hB1.size
      clear hB1 hg1 hown h0 hcap hr hr'
      go_wp2_with fail
      refine (of_all A1 n c1 w1.heap.size b _ (Nat.le_refl _) hb hr1).mono ?_
      rintro e w2 ⟨A2, c2, rfl, hr4, hb2⟩
      generalize hws : ofWds b = ws at *
      have HWS := Lib.hid hws
      clear hws
      have hr5 : Rd w2 w.heap.size 1 A n (ints .u8 b) := hr2.below hb2 hs1
      have hs2 := hb2.size
      go_wp2_with fail
      refine (refof_all A n c w.heap.size b _ (by omega) hb hr5).mono ?_
      rintro e w3 ⟨A3, c3, rfl, hr6, hb3⟩
      rw [HWS.out] at hr6
      rw [HWS.out]
      have hr7 : Rd w3 w2.heap.size 1 A2 ws.length (ints .u32 ws) := hr4.below hb3 (Nat.le_refl _)
      have hs3 := hb3.size
      clear hr4 hr5
      go_wp2_with fail
      have HX : ∀ W, Ext w3.drew W → Ty.of (SlT .u32 ws) (.slice A2 ws.length c2) W := fun W hW => ⟨_, _, rfl, (hr7.drew.below hW hs3).more (Nat.le_trans hs3 hW.size)⟩
      have HY : ∀ W, Ext w3.drew W → Ty.of (SlT .u32 ws) (.slice A3 ws.length c3) W := fun W hW => ⟨_, _, rfl, (hr6.drew.below hW (Nat.le_refl _)).more hW.size⟩
      have HL : ∀ W, Ext w3.drew W → Ty.of (SlT .u32 l) (.slice A' m c') W := fun W hW => ⟨_, _, by rw [HLL.out], by
        rw [HLL.out]
        exact (((hr3.below hb2 hs1).below hb3 (by omega)).drew.below hW (show w.heap.size ≤ w3.heap.size by omega)).more (Nat.le_trans (show w.heap.size ≤ w3.heap.size by omega) hW.size)⟩
      have HO : ∀ W, Ext w3.drew W → Ty.of (SlT .u8 b) (.slice A1 n c1) W := fun W hW => ⟨_, _, by rw [HBL.out], by
        rw [HBL.out]
        exact (((hr1.below hb2 (Nat.le_refl _)).below hb3 hs2).drew.below hW (show w1.heap.size ≤ w3.heap.size by omega)).more (Nat.le_trans (show w1.heap.size ≤ w3.heap.size by omega) hW.size)⟩
      have HB : ∀ W, Ext w3.drew W → Ty.of (SlT .u8 b) (.slice A n c) W := fun W hW => ⟨_, _, by rw [HBL.out], by
        rw [HBL.out]
        exact (((hr2.below hb2 hs1).below hb3 (by omega)).drew.below hW (show w.heap.size ≤ w3.heap.size by omega)).more (Nat.le_trans (show w.heap.size ≤ w3.heap.size by omega) hW.size)⟩
      have hwl : ws.length ≤ 1000000000 := by rw [← HWS.out]; unfold ofWds; split <;> simp [wordsL_length]; omega
      have hll : l.length ≤ 100000000 := by rw [HLL.out]; omega
      have hbt := bytesL_length l
      refine wp_region_typed rfl (by kernel_rfl) (by kernel_rfl) ?_
      refine tw_as (SlT .u32 ws) (stable_sl _ _) (.inl rfl) rfl HX (wd_none rfl) ?_
      refine tw_as (SlT .u32 ws) (stable_sl _ _) (.inl rfl) rfl HY (wd_none rfl) ?_
      refine tw_call (.inl (.bool true)) (stable_is _) (wd_none rfl) (fun a W hW hs => ?_) ?_
      · obtain ⟨Ax, cx, ex, hx⟩ := hs 41 (by decide)
        obtain ⟨Ay, cy, ey, hy⟩ := hs 42 (by decide)
        refine ⟨28, #[.slice Ax ws.length cx, .slice Ay ws.length cy], by simp only [execOp, resolve, Act.eval]; go_simp, ?_⟩
        refine (same_any _ _ _ _ _ _ _ _ ws ws W hwl hwl hx hy).mono ?_
        rintro e w' ⟨rfl, nd, rfl⟩
        exact ⟨_, rfl, Ext.drewN _ _, by simp [Ty.of]⟩
      refine tw_move (.inl (.bool true)) (stable_is _) (.inl rfl) rfl (wd_none rfl) ?_
      refine tw_as (.inl (.int .i64 (ofErr n))) (stable_is _) (.inl rfl) rfl (fun _ _ => rfl) (wd_yes rfl rfl rfl) ?_
      refine tw_as (.inl (.int .i64 (ofErr n))) (stable_is _) (.inl rfl) rfl (fun _ _ => rfl) (wd_yes rfl rfl rfl) ?_
      refine tw_two (s := 45) (t := 46) (.bool true) (by decide) (by decide) rfl rfl (wd_yes rfl rfl rfl) (fun ρ W h1 h2 h3 => by simp only [execOp, h1, h2]; go_simp) ?_
      refine tw_two (s := 44) (t := 47) (.bool true) (by decide) (by decide) rfl rfl (wd_none rfl) (fun ρ W h1 h2 h3 => by simp only [execOp, h1, h2, h3]; go_simp) ?_
      refine tw_move (.inl (.bool true)) (stable_is _) (.inl rfl) rfl (wd_none rfl) ?_
      refine tw_as (SlT .u32 l) (stable_sl _ _) (.inl rfl) rfl HL (wd_yes rfl rfl rfl) ?_
      refine tw_call (SlT .u8 (bytesL l)) (stable_sl _ _) (wd_yes rfl rfl rfl) (fun a W hW hs => ?_) ?_
      · obtain ⟨Ax, cx, ex, hx⟩ := hs 50 (by decide)
        refine ⟨37, #[.slice Ax l.length cx], by simp only [execOp, resolve, Act.eval]; go_simp, ?_⟩
        refine (bytes_any _ _ _ _ l W hll (Nat.le_refl _) hl hx).mono ?_
        rintro e w' ⟨v, rfl, hown, hbw⟩
        obtain ⟨Av, cv, rfl⟩ := own_form hown
        exact ⟨_, rfl, hbw, Av, cv, by rw [hbt], by rw [hbt]; exact Rd.of_own hown⟩
      refine tw_conv (bytesL l) rfl rfl (wd_yes rfl rfl rfl) ?_
      refine tw_as (SlT .u32 l) (stable_sl _ _) (.inl rfl) rfl HL (wd_yes rfl rfl rfl) ?_
      refine tw_call (SlT .u8 (bytesL l)) (stable_sl _ _) (wd_yes rfl rfl rfl) (fun a W hW hs => ?_) ?_
      · obtain ⟨Ax, cx, ex, hx⟩ := hs 53 (by decide)
        refine ⟨38, #[.slice Ax l.length cx], by simp only [execOp, resolve, Act.eval]; go_simp, ?_⟩
        refine (refbytes_any _ _ _ _ l W hll (Nat.le_refl _) hl hx).mono ?_
        rintro e w' ⟨v, rfl, hown, hbw⟩
        obtain ⟨Av, cv, rfl⟩ := own_form hown
        exact ⟨_, rfl, hbw, Av, cv, by rw [hbt], by rw [hbt]; exact Rd.of_own hown⟩
      refine tw_conv (bytesL l) rfl rfl (wd_yes rfl rfl rfl) ?_
      refine tw_two (s := 52) (t := 55) (.bool true) (by decide) (by decide) rfl rfl (wd_yes rfl rfl rfl) (fun ρ W h1 h2 h3 => by simp only [execOp, h1, h2]; go_simp) ?_
      refine tw_two (s := 49) (t := 56) (.bool true) (by decide) (by decide) rfl rfl (wd_none rfl) (fun ρ W h1 h2 h3 => by simp only [execOp, h1, h2, h3]; go_simp) ?_
      refine tw_move (.inl (.bool true)) (stable_is _) (.inl rfl) rfl (wd_none rfl) ?_
      refine tw_as (SlT .u8 b) (stable_sl _ _) (.inl rfl) rfl HO (wd_yes rfl rfl rfl) ?_
      refine tw_conv b rfl rfl (wd_yes rfl rfl rfl) ?_
      refine tw_as (SlT .u8 b) (stable_sl _ _) (.inl rfl) rfl HB (wd_yes rfl rfl rfl) ?_
      refine tw_conv b rfl rfl (wd_yes rfl rfl rfl) ?_
      refine tw_two (s := 60) (t := 62) (.bool true) (by decide) (by decide) rfl rfl (wd_yes rfl rfl rfl) (fun ρ W h1 h2 h3 => by simp only [execOp, h1, h2]; go_simp) ?_
      refine tw_two (s := 58) (t := 63) (.bool true) (by decide) (by decide) rfl rfl (wd_none rfl) (fun ρ W h1 h2 h3 => by simp only [execOp, h1, h2, h3]; go_simp) ?_
      refine tw_move (.inl (.bool true)) (stable_is _) (.inr rfl) rfl (wd_none rfl) ?_
      dsimp only [wpT, List.reverse, List.reverseAux, FinT, SlT]
      intro v1 v2 v3 v4 v5 v6 v7 v8 W hW _
      have HF := Lib.hid (((HB1.out.trans (hb2.mono hs1)).trans (hb3.mono (show w.heap.size ≤ w2.heap.size by omega))).drew.trans (Below.mono hW (show w.heap.size ≤ w3.heap.size by omega)))
      clear HX HY HL HO HB hr1 hr2 hr3 hr6 hr7 hb2 hb3 hW hbt
      simp only [Act.put, List.setIfInBounds_toArray, List.set_cons_zero, List.set_cons_succ]
      go_wp2
      go_ret
      exact ⟨rfl, HF.out⟩
end Go.Proofs.Ytbmebioakmlliaa
