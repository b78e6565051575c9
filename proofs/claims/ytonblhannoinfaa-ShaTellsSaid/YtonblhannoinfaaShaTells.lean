/- The walk of ShaTells. -/
import Derived.Test.YtonblhannoinfaaShaI
namespace Go.Proofs.Ytonblhannoinfaa
open Go.RowKit
set_option maxHeartbeats 4000000 in
set_option maxRecDepth 10000 in
theorem shaTells_walk (A : Option Addr) (n c : Nat) (b : List Int) (k : Int) (w : World) (hr : Rd w w.heap.size 1 A n (ints .u8 b)) (hb : ∀ x ∈ b, 0 ≤ x ∧ x < 256) (hk : -9223372036854775808 ≤ k ∧ k ≤ 9223372036854775807) :
    Calls Try.prog 9 #[.slice A n c, .int .i64 k] w fun e w' => e = .returned (.bool true) ∧ Below w.heap.size w w' := by
  have hcase : ((300 < n ∧ n ≤ 16384) ∨ 17000 < n) ∨ (n ≤ 300 ∨ (16384 < n ∧ n ≤ 17000)) := by omega
  rcases hcase with (⟨h1, h2⟩ | h1) | hcase
  · go_enter Try.func9, Try.ntmps9
    go_wp2
    go_ret
    exact ⟨rfl, Below.refl _ _⟩
  · go_enter Try.func9, Try.ntmps9
    go_wp2
    go_ret
    exact ⟨rfl, Below.refl _ _⟩
  · have h0 : (w.alloc (.cells #[] 5)).ownsRow w.heap.size 5 1 (.slice (some ⟨w.heap.size, 0, none⟩) 0 0) 0 (ints .u8 []) := World.ownsRow_lit w #[] 0 (Nat.le_refl _) (by unfold maxLen; omega) rfl
    have hcap : w.heap.size ≤ (w.alloc (.cells #[] 5)).heap.size := by simp
    have HB8 : Hid (Bytes8 b) := Lib.hid hb
    have hnb : n ≤ 17000 := by omega
    have HSL := Lib.hid (shaO_length b)
    clear hb
    rcases hcase with h1 | ⟨h1, h2⟩
    all_goals
      go_enter Try.func9, Try.ntmps9
      go_wp2_with (at_builtin; refine app_u8s rfl _ _ rfl w.heap.size _ _ _ rfl h0 w.heap.size _ _ _ b rfl (hr.alloc (Nat.le_refl _) _) (by omega) hcap ?_)
      intro v w1 hown hg1 _
      obtain ⟨A1, c1, rfl, hc1⟩ : ∃ A1 c1, v = .slice A1 n c1 ∧ n ≤ c1 := by
        rcases hown.2 with ⟨hv, h0⟩ | ⟨g, cap, cur, hv, _, _, hc, _⟩
        · exact ⟨none, 0, by rw [hv, h0], by omega⟩
        · exact ⟨_, _, hv, hc⟩
      have hB1 : Below w.heap.size w w1 := ((Below.refl _ w).alloc (Nat.le_refl _) _).grown hg1 (by simp) (by intro k hk; simp [Value.ownBlock] at hk; omega)
      have hr1 : Rd w1 w1.heap.size 1 A1 n (ints .u8 b) := Rd.of_own hown
      have hr2 : Rd w1 w.heap.size 1 A n (ints .u8 b) := hr.below hB1 (Nat.le_refl _)
      have HB1 := Lib.hid hB1
      have HR1 := Lib.hid hr1
      have HR2 := Lib.hid hr2
      have hs1 := hB1.size
      clear hB1 hg1 hown h0 hcap hr hr1 hr2
      go_wp2_with fail
      refine (of_all_sha A1 n c1 w1.heap.size b _ (Nat.le_refl _) HR1.out HB8.out hc1 (by omega)).mono ?_
      rintro e w2 ⟨rfl, hb2⟩
      have HR3 := Lib.hid ((HR1.out.below hb2 (Nat.le_refl _)).more hb2.size)
      have HR4 := Lib.hid (HR2.out.below hb2 hs1)
      have HB2 := Lib.hid (HB1.out.trans (hb2.mono hs1))
      have hs2 := HB2.out.size
      clear hb2 HR1 HR2
      go_upto_region 5 with (refine wpList_store_row rfl 43 (.tmp 6) (.tmp 33) rfl w2.heap.size (ints .u8 (shaO b)).toArray rfl rfl _ _ (heap_alloc_new w2 _) (size20 HSL.out) (old20 HSL.out) (ints_all_one _ _) ?_)
      rw [zero20]
      obtain ⟨h63, hx3⟩ := new20 w2 (shaO b)
      generalize (w2.alloc (.cells (ints .u8 (List.replicate 20 0)).toArray 43)).setRow w2.heap.size (ints .u8 (shaO b)).toArray = w3 at *
      obtain ⟨g6, hg6⟩ : ∃ g6, g6 = w2.heap.size := ⟨_, rfl⟩
      rw [← hg6] at h63
      rw [← hg6]
      have HR5 := Lib.hid ((HR3.out.below hx3 (Nat.le_refl _)).more hx3.size)
      have HR6 := Lib.hid (HR4.out.below hx3 hs2)
      have H63 := Lib.hid h63
      have HB3 := Lib.hid (HB2.out.trans (hx3.mono hs2))
      have hs3 := HB3.out.size
      clear h63 hx3 hg6 HR3 HR4
      go_wp2_with fail
      refine (refof_sha A n c w.heap.size b _ hs3 HR6.out HB8.out (by omega)).mono ?_
      rintro e w4 ⟨rfl, hb4⟩
      have HR7 := Lib.hid ((HR5.out.below hb4 (Nat.le_refl _)).more hb4.size)
      have HR8 := Lib.hid (HR6.out.below hb4 hs3)
      have H64 := Lib.hid (H63.out.ext hb4)
      have HB4 := Lib.hid (HB3.out.trans (hb4.mono hs3))
      have hs4 := HB4.out.size
      clear hb4 HR5 HR6 H63
      go_upto_region 6 with (refine wpList_store_row rfl 43 (.tmp 8) (.tmp 38) rfl w4.heap.size (ints .u8 (shaO b)).toArray rfl rfl _ _ (heap_alloc_new w4 _) (size20 HSL.out) (old20 HSL.out) (ints_all_one _ _) ?_)
      rw [zero20]
      obtain ⟨h85, hx5⟩ := new20 w4 (shaO b)
      generalize (w4.alloc (.cells (ints .u8 (List.replicate 20 0)).toArray 43)).setRow w4.heap.size (ints .u8 (shaO b)).toArray = w5 at *
      obtain ⟨g8, hg8⟩ : ∃ g8, g8 = w4.heap.size := ⟨_, rfl⟩
      rw [← hg8] at h85
      rw [← hg8]
      have HR9 := Lib.hid ((HR7.out.below hx5 (Nat.le_refl _)).more hx5.size)
      have HRa := Lib.hid (HR8.out.below hx5 hs4)
      have H65 := Lib.hid (H64.out.ext hx5)
      have H85 := Lib.hid h85
      have HB5 := Lib.hid (HB4.out.trans (hx5.mono hs4))
      have hs5 := HB5.out.size
      clear h85 hx5 hg8 HR7 HR8 H64
      go_wp2_with fail
      refine (pad_any k _ hk.1 hk.2).mono ?_
      rintro e w6 ⟨A6, c6, rfl, hz, hb6, _⟩
      have HRb := Lib.hid ((HR9.out.below hb6 (Nat.le_refl _)).more hb6.size)
      have HRc := Lib.hid (HRa.out.below hb6 hs5)
      have H66 := Lib.hid (H65.out.ext hb6)
      have H86 := Lib.hid (H85.out.ext hb6)
      have HZ := Lib.hid hz
      have HB6 := Lib.hid (HB5.out.trans (hb6.mono hs5))
      have hs6 := HB6.out.size
      clear hz hb6 HR9 HRa H65 H85
      go_wp2_with fail
      refine (refpad_any k _ hk.1 hk.2).mono ?_
      rintro e w7 ⟨A7, c7, rfl, hy, hb7, _⟩
      have hrd := (HRb.out.below hb7 (Nat.le_refl _)).more hb7.size
      have hre := HRc.out.below hb7 hs6
      have hz7 := (HZ.out.below hb7 (Nat.le_refl _)).more hb7.size
      have H67 := Lib.hid (H66.out.ext hb7)
      have H87 := Lib.hid (H86.out.ext hb7)
      have HB7 := Lib.hid (HB6.out.trans (hb7.mono hs6))
      have e1 := conv_rd (c := c1) hrd
      have e2 := conv_rd (c := c) hre
      have e3 := conv_rd (c := c6) hz7
      have e4 := conv_rd (c := c7) hy
      have he := equalIn20 (shaO b) HSL.out w7
      have hgd := fun (x y : Operand) (xs ys : Array Value) => guard20 x y xs ys w7
      have HS20 := Lib.hid (size20 HSL.out)
      generalize strOfNums (padO k) = Z at *
      generalize strOfNums b = Y at *
      clear hrd hre hz7 hy hb7 HRb HRc HZ H66 H86
      go_wp2_with (first
        | (refine wpList_load_row rfl 43 (.tmp 6) rfl g6 rfl _ _ (0, 0) _ H67.out Try.underlying43 rfl HS20.out ?_)
        | (refine wpList_load_row rfl 43 (.tmp 8) rfl g8 rfl _ _ (0, 0) _ H87.out Try.underlying43 rfl HS20.out ?_))
      go_ret
      exact ⟨rfl, HB7.out⟩
end Go.Proofs.Ytonblhannoinfaa
