/- The walk of the document's 'three'. -/
import Derived.Test.YtbmebioakmlliaaWord
namespace Go.Proofs.Ytbmebioakmlliaa
open Go.RowKit

set_option maxHeartbeats 1000000 in
set_option maxRecDepth 10000 in
theorem three_1 (x y z : Int) (hx0 : 0 ≤ x) (hx1 : x < 4294967296) (hy0 : 0 ≤ y) (hy1 : y < 4294967296) (hz0 : 0 ≤ z) (hz1 : z < 4294967296) (w : World) :
    Calls Try.prog 73 #[.int .u32 x, .int .u32 y, .int .u32 z, .int .i64 1] w fun e w' => e = .returned (.int .u32 (thr 1 x y z 32)) ∧ w = w' := by
  have hthr : ∀ k, k ≤ 32 → 0 ≤ thr 1 x y z k ∧ thr 1 x y z k < 4294967296 := thr_small 1 x y z
  have HT := Lib.hid hthr
  have HS : Hid (∀ k, thr 1 x y z (k + 1) = 2 * thr 1 x y z k + oneI 1 (bitI x (31 - k)) (bitI y (31 - k)) (bitI z (31 - k))) := fun _ => rfl
  clear hthr
  go_enter Try.func73, Try.ntmps73
  go_wp2
  go_loop [9, 10] (fun o i => ∃ k : Nat, k ≤ 32 ∧ i = .int .i64 (31 - (k : Int)) ∧ o = .int .i64 (thr 1 x y z k)) (fun _ i => (intOf i + 1).toNat)
  case atStart => exact ⟨0, by omega, rfl, rfl⟩
  case round =>
    obtain ⟨k, hk, rfl, rfl⟩ := hrel
    have ht := HT.out k hk
    by_cases hlt : k < 32
    · have hs := HT.out (k + 1) (by omega)
      have HX := Lib.hid (HS.out k)
      rw [HS.out k] at hs
      have ha := bitI_bd x (31 - k)
      have hb := bitI_bd y (31 - k)
      have hc := bitI_bd z (31 - k)
      have e : (31 - (k : Int)).toNat = 31 - k := by omega
      have hi : 0 ≤ 31 - (k : Int) := by omega
      have hbx : ∀ W, Calls Try.prog 91 #[.int .u32 x, .int .i64 (31 - (k : Int))] W fun e w' => e = .returned (.int .i64 (bitI x (31 - k))) ∧ W = w' := fun W => by
        have := bit_any x (31 - (k : Int)) hx0 hx1 hi W
        rw [e] at this; exact this
      have hby : ∀ W, Calls Try.prog 91 #[.int .u32 y, .int .i64 (31 - (k : Int))] W fun e w' => e = .returned (.int .i64 (bitI y (31 - k))) ∧ W = w' := fun W => by
        have := bit_any y (31 - (k : Int)) hy0 hy1 hi W
        rw [e] at this; exact this
      have hbz : ∀ W, Calls Try.prog 91 #[.int .u32 z, .int .i64 (31 - (k : Int))] W fun e w' => e = .returned (.int .i64 (bitI z (31 - k))) ∧ W = w' := fun W => by
        have := bit_any z (31 - (k : Int)) hz0 hz1 hi W
        rw [e] at this; exact this
      have HBX := Lib.hid hbx
      have HBY := Lib.hid hby
      have HBZ := Lib.hid hbz
      clear hbx hby hbz e
      generalize bitI x (31 - k) = a at *
      generalize bitI y (31 - k) = b at *
      generalize bitI z (31 - k) = c at *
      generalize thr 1 x y z k = t at *
      have HA : Hid (0 ≤ oneI 1 a b c ∧ oneI 1 a b c ≤ 1) := oneI_bd 1 a b c ha hb hc
      by_cases h1 : a = 1
      · subst h1
        have HO : Hid (oneI 1 1 b c = b) := by simp [Hid, oneI]
        rw [HO.out] at hs
        go_wp2_with fail
        refine (HBX.out _).mono ?_
        rintro e w' ⟨rfl, rfl⟩
        go_wp2_with fail
        refine (HBY.out _).mono ?_
        rintro e w' ⟨rfl, rfl⟩
        go_wp2_with fail
        refine (HBZ.out _).mono ?_
        rintro e w' ⟨rfl, rfl⟩
        go_wp2
        go_round
        case rel => exact ⟨k + 1, by omega, by go_num, by rw [HX.out, HO.out]⟩
        case measure => simp [intOf]; omega
      · have h0 : a = 0 := by omega
        subst h0
        have HO : Hid (oneI 1 0 b c = c) := by simp [Hid, oneI]
        rw [HO.out] at hs
        clear h1
        go_wp2_with fail
        refine (HBX.out _).mono ?_
        rintro e w' ⟨rfl, rfl⟩
        go_wp2_with fail
        refine (HBY.out _).mono ?_
        rintro e w' ⟨rfl, rfl⟩
        go_wp2_with fail
        refine (HBZ.out _).mono ?_
        rintro e w' ⟨rfl, rfl⟩
        go_wp2
        go_round
        case rel => exact ⟨k + 1, by omega, by go_num, by rw [HX.out, HO.out]⟩
        case measure => simp [intOf]; omega
    · obtain rfl : k = 32 := by omega
      go_wp2
      go_ret
      exact ⟨ret_int (by first | rfl | omega), rfl⟩

set_option maxHeartbeats 1000000 in
set_option maxRecDepth 10000 in
theorem three_2 (x y z : Int) (hx0 : 0 ≤ x) (hx1 : x < 4294967296) (hy0 : 0 ≤ y) (hy1 : y < 4294967296) (hz0 : 0 ≤ z) (hz1 : z < 4294967296) (w : World) :
    Calls Try.prog 73 #[.int .u32 x, .int .u32 y, .int .u32 z, .int .i64 2] w fun e w' => e = .returned (.int .u32 (thr 2 x y z 32)) ∧ w = w' := by
  have hthr : ∀ k, k ≤ 32 → 0 ≤ thr 2 x y z k ∧ thr 2 x y z k < 4294967296 := thr_small 2 x y z
  have HT := Lib.hid hthr
  have HS : Hid (∀ k, thr 2 x y z (k + 1) = 2 * thr 2 x y z k + oneI 2 (bitI x (31 - k)) (bitI y (31 - k)) (bitI z (31 - k))) := fun _ => rfl
  clear hthr
  go_enter Try.func73, Try.ntmps73
  go_wp2
  go_loop [9, 10] (fun o i => ∃ k : Nat, k ≤ 32 ∧ i = .int .i64 (31 - (k : Int)) ∧ o = .int .i64 (thr 2 x y z k)) (fun _ i => (intOf i + 1).toNat)
  case atStart => exact ⟨0, by omega, rfl, rfl⟩
  case round =>
    obtain ⟨k, hk, rfl, rfl⟩ := hrel
    have ht := HT.out k hk
    by_cases hlt : k < 32
    · have hs := HT.out (k + 1) (by omega)
      have HX := Lib.hid (HS.out k)
      rw [HS.out k] at hs
      have ha := bitI_bd x (31 - k)
      have hb := bitI_bd y (31 - k)
      have hc := bitI_bd z (31 - k)
      have e : (31 - (k : Int)).toNat = 31 - k := by omega
      have hi : 0 ≤ 31 - (k : Int) := by omega
      have hbx : ∀ W, Calls Try.prog 91 #[.int .u32 x, .int .i64 (31 - (k : Int))] W fun e w' => e = .returned (.int .i64 (bitI x (31 - k))) ∧ W = w' := fun W => by
        have := bit_any x (31 - (k : Int)) hx0 hx1 hi W
        rw [e] at this; exact this
      have hby : ∀ W, Calls Try.prog 91 #[.int .u32 y, .int .i64 (31 - (k : Int))] W fun e w' => e = .returned (.int .i64 (bitI y (31 - k))) ∧ W = w' := fun W => by
        have := bit_any y (31 - (k : Int)) hy0 hy1 hi W
        rw [e] at this; exact this
      have hbz : ∀ W, Calls Try.prog 91 #[.int .u32 z, .int .i64 (31 - (k : Int))] W fun e w' => e = .returned (.int .i64 (bitI z (31 - k))) ∧ W = w' := fun W => by
        have := bit_any z (31 - (k : Int)) hz0 hz1 hi W
        rw [e] at this; exact this
      have HBX := Lib.hid hbx
      have HBY := Lib.hid hby
      have HBZ := Lib.hid hbz
      clear hbx hby hbz e
      generalize bitI x (31 - k) = a at *
      generalize bitI y (31 - k) = b at *
      generalize bitI z (31 - k) = c at *
      generalize thr 2 x y z k = t at *
      have HA : Hid (0 ≤ oneI 2 a b c ∧ oneI 2 a b c ≤ 1) := oneI_bd 2 a b c ha hb hc
      by_cases h1 : a = 1
      · subst h1
        have HO : Hid (oneI 2 1 b c = (1 + b + c) % 2) := by simp [Hid, oneI]
        rw [HO.out] at hs
        go_wp2_with fail
        refine (HBX.out _).mono ?_
        rintro e w' ⟨rfl, rfl⟩
        go_wp2_with fail
        refine (HBY.out _).mono ?_
        rintro e w' ⟨rfl, rfl⟩
        go_wp2_with fail
        refine (HBZ.out _).mono ?_
        rintro e w' ⟨rfl, rfl⟩
        go_wp2
        go_round
        case rel => exact ⟨k + 1, by omega, by go_num, by rw [HX.out, HO.out]⟩
        case measure => simp [intOf]; omega
      · have h0 : a = 0 := by omega
        subst h0
        have HO : Hid (oneI 2 0 b c = (b + c) % 2) := by simp [Hid, oneI]
        rw [HO.out] at hs
        clear h1
        go_wp2_with fail
        refine (HBX.out _).mono ?_
        rintro e w' ⟨rfl, rfl⟩
        go_wp2_with fail
        refine (HBY.out _).mono ?_
        rintro e w' ⟨rfl, rfl⟩
        go_wp2_with fail
        refine (HBZ.out _).mono ?_
        rintro e w' ⟨rfl, rfl⟩
        go_wp2
        go_round
        case rel => exact ⟨k + 1, by omega, by go_num, by rw [HX.out, HO.out]⟩
        case measure => simp [intOf]; omega
    · obtain rfl : k = 32 := by omega
      go_wp2
      go_ret
      exact ⟨ret_int (by first | rfl | omega), rfl⟩

set_option maxHeartbeats 1000000 in
set_option maxRecDepth 10000 in
theorem three_3 (x y z : Int) (hx0 : 0 ≤ x) (hx1 : x < 4294967296) (hy0 : 0 ≤ y) (hy1 : y < 4294967296) (hz0 : 0 ≤ z) (hz1 : z < 4294967296) (w : World) :
    Calls Try.prog 73 #[.int .u32 x, .int .u32 y, .int .u32 z, .int .i64 3] w fun e w' => e = .returned (.int .u32 (thr 3 x y z 32)) ∧ w = w' := by
  have hthr : ∀ k, k ≤ 32 → 0 ≤ thr 3 x y z k ∧ thr 3 x y z k < 4294967296 := thr_small 3 x y z
  have HT := Lib.hid hthr
  have HS : Hid (∀ k, thr 3 x y z (k + 1) = 2 * thr 3 x y z k + oneI 3 (bitI x (31 - k)) (bitI y (31 - k)) (bitI z (31 - k))) := fun _ => rfl
  clear hthr
  go_enter Try.func73, Try.ntmps73
  go_wp2
  go_loop [9, 10] (fun o i => ∃ k : Nat, k ≤ 32 ∧ i = .int .i64 (31 - (k : Int)) ∧ o = .int .i64 (thr 3 x y z k)) (fun _ i => (intOf i + 1).toNat)
  case atStart => exact ⟨0, by omega, rfl, rfl⟩
  case round =>
    obtain ⟨k, hk, rfl, rfl⟩ := hrel
    have ht := HT.out k hk
    by_cases hlt : k < 32
    · have hs := HT.out (k + 1) (by omega)
      have HX := Lib.hid (HS.out k)
      rw [HS.out k] at hs
      have ha := bitI_bd x (31 - k)
      have hb := bitI_bd y (31 - k)
      have hc := bitI_bd z (31 - k)
      have e : (31 - (k : Int)).toNat = 31 - k := by omega
      have hi : 0 ≤ 31 - (k : Int) := by omega
      have hbx : ∀ W, Calls Try.prog 91 #[.int .u32 x, .int .i64 (31 - (k : Int))] W fun e w' => e = .returned (.int .i64 (bitI x (31 - k))) ∧ W = w' := fun W => by
        have := bit_any x (31 - (k : Int)) hx0 hx1 hi W
        rw [e] at this; exact this
      have hby : ∀ W, Calls Try.prog 91 #[.int .u32 y, .int .i64 (31 - (k : Int))] W fun e w' => e = .returned (.int .i64 (bitI y (31 - k))) ∧ W = w' := fun W => by
        have := bit_any y (31 - (k : Int)) hy0 hy1 hi W
        rw [e] at this; exact this
      have hbz : ∀ W, Calls Try.prog 91 #[.int .u32 z, .int .i64 (31 - (k : Int))] W fun e w' => e = .returned (.int .i64 (bitI z (31 - k))) ∧ W = w' := fun W => by
        have := bit_any z (31 - (k : Int)) hz0 hz1 hi W
        rw [e] at this; exact this
      have HBX := Lib.hid hbx
      have HBY := Lib.hid hby
      have HBZ := Lib.hid hbz
      clear hbx hby hbz e
      generalize bitI x (31 - k) = a at *
      generalize bitI y (31 - k) = b at *
      generalize bitI z (31 - k) = c at *
      generalize thr 3 x y z k = t at *
      have HA : Hid (0 ≤ oneI 3 a b c ∧ oneI 3 a b c ≤ 1) := oneI_bd 3 a b c ha hb hc
      by_cases h1 : a = 1
      · subst h1
        have HO : Hid (oneI 3 1 b c = (1 + b + c) / 2) := by simp [Hid, oneI]
        rw [HO.out] at hs
        go_wp2_with fail
        refine (HBX.out _).mono ?_
        rintro e w' ⟨rfl, rfl⟩
        go_wp2_with fail
        refine (HBY.out _).mono ?_
        rintro e w' ⟨rfl, rfl⟩
        go_wp2_with fail
        refine (HBZ.out _).mono ?_
        rintro e w' ⟨rfl, rfl⟩
        go_wp2
        go_round
        case rel => exact ⟨k + 1, by omega, by go_num, by rw [HX.out, HO.out]⟩
        case measure => simp [intOf]; omega
      · have h0 : a = 0 := by omega
        subst h0
        have HO : Hid (oneI 3 0 b c = (b + c) / 2) := by simp [Hid, oneI]
        rw [HO.out] at hs
        clear h1
        go_wp2_with fail
        refine (HBX.out _).mono ?_
        rintro e w' ⟨rfl, rfl⟩
        go_wp2_with fail
        refine (HBY.out _).mono ?_
        rintro e w' ⟨rfl, rfl⟩
        go_wp2_with fail
        refine (HBZ.out _).mono ?_
        rintro e w' ⟨rfl, rfl⟩
        go_wp2
        go_round
        case rel => exact ⟨k + 1, by omega, by go_num, by rw [HX.out, HO.out]⟩
        case measure => simp [intOf]; omega
    · obtain rfl : k = 32 := by omega
      go_wp2
      go_ret
      exact ⟨ret_int (by first | rfl | omega), rfl⟩

theorem refchoose_any (x y z : Int) (hx : 0 ≤ x ∧ x < 4294967296) (hy : 0 ≤ y ∧ y < 4294967296) (hz : 0 ≤ z ∧ z < 4294967296) (w : World) :
    Calls Try.prog 30 #[.int .u32 x, .int .u32 y, .int .u32 z] w fun e w' => e = .returned (.int .u32 (chooseI x y z)) ∧ w = w' := by
  rw [choose_thr x y z hx hy hz]
  go_enter Try.func30, Try.ntmps30
  go_wp2_with fail
  refine (three_1 x y z hx.1 hx.2 hy.1 hy.2 hz.1 hz.2 _).mono ?_
  rintro e w' ⟨rfl, rfl⟩
  go_wp2
  go_ret
  exact ⟨rfl, rfl⟩

theorem refodd_any (x y z : Int) (hx : 0 ≤ x ∧ x < 4294967296) (hy : 0 ≤ y ∧ y < 4294967296) (hz : 0 ≤ z ∧ z < 4294967296) (w : World) :
    Calls Try.prog 32 #[.int .u32 x, .int .u32 y, .int .u32 z] w fun e w' => e = .returned (.int .u32 (oddI x y z)) ∧ w = w' := by
  rw [odd_thr x y z hx hy hz]
  go_enter Try.func32, Try.ntmps32
  go_wp2_with fail
  refine (three_2 x y z hx.1 hx.2 hy.1 hy.2 hz.1 hz.2 _).mono ?_
  rintro e w' ⟨rfl, rfl⟩
  go_wp2
  go_ret
  exact ⟨rfl, rfl⟩

theorem refmost_any (x y z : Int) (hx : 0 ≤ x ∧ x < 4294967296) (hy : 0 ≤ y ∧ y < 4294967296) (hz : 0 ≤ z ∧ z < 4294967296) (w : World) :
    Calls Try.prog 34 #[.int .u32 x, .int .u32 y, .int .u32 z] w fun e w' => e = .returned (.int .u32 (mostI x y z)) ∧ w = w' := by
  rw [most_thr x y z hx hy hz]
  go_enter Try.func34, Try.ntmps34
  go_wp2_with fail
  refine (three_3 x y z hx.1 hx.2 hy.1 hy.2 hz.1 hz.2 _).mono ?_
  rintro e w' ⟨rfl, rfl⟩
  go_wp2
  go_ret
  exact ⟨rfl, rfl⟩

theorem refturn_eq (x n : Int) (hx : 0 ≤ x ∧ x < 4294967296) (hn : -9223372036854775808 ≤ n ∧ n ≤ 9223372036854775807) (w : World) :
    Calls Try.prog 25 #[.int .u32 x, .int .i64 n] w fun e w' => e = .returned (.int .u32 (turnI x n)) ∧ w = w' := by
  rw [turn_ups x hx n]
  exact refturn_any x n hx.1 hx.2 hn.1 hn.2 w
end Go.Proofs.Ytbmebioakmlliaa
