/- The walk of HexTells. -/
import Derived.Test.YtonblhannoinfaaHexAlive
namespace Go.Proofs.Ytonblhannoinfaa
open Go.RowKit
set_option maxHeartbeats 2000000 in
set_option maxRecDepth 10000 in
theorem hexTells_walk (A : Option Addr) (n c : Nat) (b : List Int) (s : ByteArray) (k x : Int) (w : World) (hr : Rd w w.heap.size 1 A n (ints .u8 b)) (hb : ∀ x ∈ b, 0 ≤ x ∧ x < 256) (hs : s.size ≤ maxLen)
    (hk : -9223372036854775808 ≤ k ∧ k ≤ 9223372036854775807) (hx : 0 ≤ x ∧ x < 256) :
    Calls Try.prog 5 #[.slice A n c, .string s, .int .i64 k, .int .u8 x] w fun e w' => e = .returned (.bool true) ∧ Below w.heap.size w w' := by
  have HMX := Lib.hid hs
  have hcase : (2000 < n ∨ (n ≤ 2000 ∧ 2000 < s.size ∧ s.size ≤ 16384) ∨ (n ≤ 2000 ∧ 17000 < s.size)) ∨ (n ≤ 2000 ∧ s.size ≤ 2000) ∨ (n ≤ 2000 ∧ 16384 < s.size ∧ s.size ≤ 17000) := by omega
  unfold maxLen at hs
  rcases hcase with (h1 | ⟨h1, h2, h3⟩ | ⟨h1, h2⟩) | hcase
  · go_enter Try.func5, Try.ntmps5
    go_wp2
    go_ret
    exact ⟨rfl, Below.refl _ _⟩
  · go_enter Try.func5, Try.ntmps5
    go_wp2
    go_ret
    exact ⟨rfl, Below.refl _ _⟩
  · go_enter Try.func5, Try.ntmps5
    go_wp2
    go_ret
    exact ⟨rfl, Below.refl _ _⟩
  · have h0 : (w.alloc (.cells #[] 5)).ownsRow w.heap.size 5 1 (.slice (some ⟨w.heap.size, 0, none⟩) 0 0) 0 (ints .u8 []) := World.ownsRow_lit w #[] 0 (Nat.le_refl _) (by unfold maxLen; omega) rfl
    have hcap : w.heap.size ≤ (w.alloc (.cells #[] 5)).heap.size := by simp
    have hb8 : Hid (B8 b) := Lib.hid hb
    clear hb
    rcases hcase with ⟨h1, h2⟩ | ⟨h1, h2, h3⟩
    all_goals
      go_enter Try.func5, Try.ntmps5
      go_wp2_with (at_builtin; refine app_u8s rfl _ _ rfl w.heap.size _ _ _ rfl h0 w.heap.size _ _ _ b rfl (hr.alloc (Nat.le_refl _) _) (by omega) hcap ?_)
      intro v w1 hown hg1 _
      obtain ⟨A1, c1, rfl⟩ := own_form hown
      have hB1 : Below w.heap.size w w1 := ((Below.refl _ w).alloc (Nat.le_refl _) _).grown hg1 (by simp) (by intro k hk; simp [Value.ownBlock] at hk; omega)
      have hr1 : Rd w1 w1.heap.size 1 A1 n (ints .u8 b) := Rd.of_own hown
      have hr2 : Rd w1 w.heap.size 1 A n (ints .u8 b) := hr.below hB1 (Nat.le_refl _)
      have HB1 := Lib.hid hB1
      clear hB1 hg1 hown h0 hcap hr
      go_wp2_with fail
      refine (digit_any x hx.1 hx.2 _).mono ?_
      rintro e w' ⟨rfl, rfl⟩
      go_wp2_with fail
      refine (digit2_any x hx.1 hx.2 _).mono ?_
      rintro e w' ⟨rfl, rfl⟩
      go_wp2_with fail
      refine (get_any s HMX.out _).mono ?_
      rintro e w2 ⟨A2, c2, rfl, hz, hb2⟩
      have hr3 := (hr1.below hb2 (Nat.le_refl _)).more hb2.size
      have hr4 := hr2.below hb2 HB1.out.size
      have HB2 := Lib.hid (HB1.out.trans (hb2.mono HB1.out.size))
      clear hr1 hr2 hb2
      go_wp2_with fail
      refine (get2_any s HMX.out _).mono ?_
      rintro e w3 ⟨A3, c3, rfl, hy, hb3⟩
      have hr5 := (hr3.below hb3 (Nat.le_refl _)).more hb3.size
      have hr6 := hr4.below hb3 HB2.out.size
      have hz3 := (hz.below hb3 (Nat.le_refl _)).more hb3.size
      have HB3 := Lib.hid (HB2.out.trans (hb3.mono HB2.out.size))
      clear hr3 hr4 hz hb3
      generalize getO s = z at *
      generalize getErr s = er at *
      have hs3 := HB3.out.size
      go_wp2_with fail
      refine (put_any A1 n c1 w3.heap.size b _ (by omega) (Nat.le_refl _) hb8.out hr5).mono ?_
      rintro e w4 ⟨rfl, hb4⟩
      have hr7 := (hr5.below hb4 (Nat.le_refl _)).more hb4.size
      have hr8 := hr6.below hb4 hs3
      have hz4 := (hz3.below hb4 (Nat.le_refl _)).more hb4.size
      have hy4 := (hy.below hb4 (Nat.le_refl _)).more hb4.size
      have HB4 := Lib.hid (HB3.out.trans (hb4.mono hs3))
      have hs4 := HB4.out.size
      clear hr5 hr6 hz3 hy hb4
      go_wp2_with fail
      refine (put2_any A n c w.heap.size b _ (by omega) hs4 hb8.out hr8).mono ?_
      rintro e w5 ⟨rfl, hb5⟩
      generalize strOfNums (putL b) = P at *
      have hr9 := (hr7.below hb5 (Nat.le_refl _)).more hb5.size
      have hra := hr8.below hb5 hs4
      have hz5 := (hz4.below hb5 (Nat.le_refl _)).more hb5.size
      have hy5 := (hy4.below hb5 (Nat.le_refl _)).more hb5.size
      have HB5 := Lib.hid (HB4.out.trans (hb5.mono hs4))
      have hs5 := HB5.out.size
      clear hr7 hr8 hz4 hy4 hb5
      go_wp2_with fail
      refine (is_any s k _).mono ?_
      rintro e w6 ⟨rfl, hb6⟩
      have hrb := (hr9.below hb6 (Nat.le_refl _)).more hb6.size
      have hrc := hra.below hb6 hs5
      have hz6 := (hz5.below hb6 (Nat.le_refl _)).more hb6.size
      have hy6 := (hy5.below hb6 (Nat.le_refl _)).more hb6.size
      have HB6 := Lib.hid (HB5.out.trans (hb6.mono hs5))
      have hs6 := HB6.out.size
      clear hr9 hra hz5 hy5 hb6
      go_wp2_with fail
      refine (is2_any s k HMX.out _).mono ?_
      rintro e w' ⟨rfl, rfl⟩
      go_wp2_with fail
      refine (is_any s _ _).mono ?_
      rintro e w7 ⟨rfl, hb7⟩
      have hrd := (hrb.below hb7 (Nat.le_refl _)).more hb7.size
      have hre := hrc.below hb7 hs6
      have hz7 := (hz6.below hb7 (Nat.le_refl _)).more hb7.size
      have hy7 := (hy6.below hb7 (Nat.le_refl _)).more hb7.size
      have HB7 := Lib.hid (HB6.out.trans (hb7.mono hs6))
      clear hrb hrc hz6 hy6 hb7
      go_wp2_with fail
      refine (is2_any s _ HMX.out _).mono ?_
      rintro e w' ⟨rfl, rfl⟩
      have e1 := conv_rd (c := c1) hrd
      have e2 := conv_rd (c := c) hre
      have e3 := conv_rd (c := c2) hz7
      have e4 := conv_rd (c := c3) hy7
      generalize strOfNums z = Z at *
      generalize strOfNums b = Y at *
      clear hrd hre hz7 hy7
      go_wp2
      go_ret
      exact ⟨rfl, HB7.out⟩
end Go.Proofs.Ytonblhannoinfaa
