/- The walk of HexDigits. -/
import Derived.Test.YtonblhannoinfaaHexAlive
namespace Go.Proofs.Ytonblhannoinfaa
open Go.RowKit
set_option maxHeartbeats 1000000 in
set_option maxRecDepth 10000 in
theorem hexDigits_walk (x : Int) (w : World) (hx : 0 ≤ x ∧ x < 256) :
    Calls Try.prog 8 #[.int .u8 x] w fun e w' => e = .returned (.bool true) ∧ Below w.heap.size w w' := by
  have b8 : B8 [x] := by intro y hy; simp at hy; omega
  have hnS : numsOf (strOfNums (putL [x])) = [ofI (x / 16), ofI (x % 16)] := numsOf_str (putL_b8 b8)
  have hsz : (strOfNums (putL [x])).size = 2 := by rw [← numsOf_length, hnS]; rfl
  have hi0 := fun W => run_index_nums (strOfNums (putL [x])) .i64 0 (ofI (x / 16)) (by omega) (by rw [hnS]; rfl) W
  have hi1 := fun W => run_index_nums (strOfNums (putL [x])) .i64 1 (ofI (x % 16)) (by omega) (by rw [hnS]; rfl) W
  have hP := fun W => put_any (some ⟨W.heap.size, 0, none⟩) 1 1 (W.heap.size + 1) [x] (W.alloc (.cells #[.int .u8 x] 5)) (by omega) (by simp) b8 (rd_int1 W _ _ _)
  generalize strOfNums (putL [x]) = S at *
  have hI : ∀ W, Calls Try.prog 26 #[.string (strOfNums [x]), .int .i64 1] W fun e w' => e = .returned (.bool (isHex x)) ∧ Below W.heap.size W w' := fun W => is_lit _ _ _ (by
    unfold isI
    rw [numsOf_str b8, strOfNums_size]
    simp [isL]) W
  have HP := Lib.hid hP
  have HI := Lib.hid hI
  have HS := Lib.hid hnS
  have hr := hexN_rng x
  have hq : ((16 * (x / 16) + x % 16 : Int) == x) = true := by rw [beq_iff_eq]; omega
  have HQ := Lib.hid hq
  clear hP hI hnS hq
  cases hb : isHex x with
  | true =>
    have HB := Lib.hid hb
    clear hb
    go_enter Try.func8, Try.ntmps8
    go_wp2_with fail
    refine (hexAlive_any w).mono ?_
    rintro e w1 ⟨rfl, hb1⟩
    go_wp2_with fail
    refine (HP.out w1).mono ?_
    rintro e w2 ⟨rfl, hb2⟩
    have HB2 := Lib.hid (hb1.trans (((Below.refl _ w1).alloc (Nat.le_refl _) (.cells #[.int .u8 x] 5) |>.trans (hb2.mono (by simp))).mono hb1.size))
    clear hb1 hb2
    go_wp2_with fail
    refine (digit_of (x / 16) (by omega) (by omega) _).mono ?_
    rintro e w' ⟨rfl, rfl⟩
    go_wp2_with fail
    refine (digit_of (x % 16) (by omega) (by omega) _).mono ?_
    rintro e w' ⟨rfl, rfl⟩
    go_wp2_with fail
    refine (digit_at x _ true hx.1 hx.2 rfl HB.out _).mono ?_
    rintro e w' ⟨rfl, rfl⟩
    have hcv := conv_rd (c := 1) (rd_int1 w2 5 .u8 x)
    go_wp2_with fail
    have hI := HI.out (w2.alloc (.cells #[.int .u8 x] 5))
    rw [HB.out] at hI
    refine hI.mono ?_
    clear hI hcv
    rintro e w3 ⟨rfl, hb3⟩
    have HB3 := Lib.hid (HB2.out.trans (((Below.refl _ w2).alloc (Nat.le_refl _) (.cells #[.int .u8 x] 5) |>.trans (hb3.mono (by simp))).mono HB2.out.size))
    clear hb3
    have hq := HQ.out
    go_wp2
    go_ret
    exact ⟨rfl, HB3.out⟩
  | false =>
    have HB := Lib.hid hb
    clear hb
    go_enter Try.func8, Try.ntmps8
    go_wp2_with fail
    refine (hexAlive_any w).mono ?_
    rintro e w1 ⟨rfl, hb1⟩
    go_wp2_with fail
    refine (HP.out w1).mono ?_
    rintro e w2 ⟨rfl, hb2⟩
    have HB2 := Lib.hid (hb1.trans (((Below.refl _ w1).alloc (Nat.le_refl _) (.cells #[.int .u8 x] 5) |>.trans (hb2.mono (by simp))).mono hb1.size))
    clear hb1 hb2
    go_wp2_with fail
    refine (digit_of (x / 16) (by omega) (by omega) _).mono ?_
    rintro e w' ⟨rfl, rfl⟩
    go_wp2_with fail
    refine (digit_of (x % 16) (by omega) (by omega) _).mono ?_
    rintro e w' ⟨rfl, rfl⟩
    go_wp2_with fail
    refine (digit_at x 0 false hx.1 hx.2 (isHex_no HB.out) HB.out _).mono ?_
    rintro e w' ⟨rfl, rfl⟩
    have hcv := conv_rd (c := 1) (rd_int1 w2 5 .u8 x)
    go_wp2_with fail
    have hI := HI.out (w2.alloc (.cells #[.int .u8 x] 5))
    rw [HB.out] at hI
    refine hI.mono ?_
    clear hI hcv
    rintro e w3 ⟨rfl, hb3⟩
    have HB3 := Lib.hid (HB2.out.trans (((Below.refl _ w2).alloc (Nat.le_refl _) (.cells #[.int .u8 x] 5) |>.trans (hb3.mono (by simp))).mono HB2.out.size))
    clear hb3
    have hq := HQ.out
    go_wp2
    go_ret
    exact ⟨rfl, HB3.out⟩
end Go.Proofs.Ytonblhannoinfaa
