/- Layer 1 (hex): a digit's number, a number's digit: the program's and the document's, with one plain function each. -/
import Derived.Test.YtonblhannoinfaaMem
import Derived.Test.YtonblhannoinfaaShelf
import Derived.Test.YtonblhannoinfaaPlainHex
namespace Go.Proofs.Ytonblhannoinfaa
open Go.RowKit

def digs : ByteArray := ⟨#[48, 49, 50, 51, 52, 53, 54, 55, 56, 57, 97, 98, 99, 100, 101, 102]⟩
theorem idx_hex (c : Nat) (h : c < 256) : (0 ≤ Lib.indexByte digs.data.toList c.toUInt8) = (isHex c = true) ∧ max (Lib.indexByte digs.data.toList c.toUInt8) 0 = hexN c := by
  have : ∀ x : Fin 256, (decide (0 ≤ Lib.indexByte digs.data.toList x.val.toUInt8) = isHex x.val) ∧ max (Lib.indexByte digs.data.toList x.val.toUInt8) 0 = hexN x.val := by decide +kernel
  have := this ⟨c, h⟩
  refine ⟨?_, this.2⟩
  rw [← this.1]
  simp
theorem hexN_bd (c : Int) : 0 ≤ hexN c ∧ hexN c ≤ 15 := by
  unfold hexN
  split
  · omega
  · split <;> omega

set_option maxHeartbeats 400000 in
set_option maxRecDepth 10000 in
theorem digit_any (c : Int) (h0 : 0 ≤ c) (h1 : c < 256) (w : World) :
    Calls Try.prog 23 #[.int .u8 c] w fun e w' => e = .returned (.tuple #[.int .i64 (hexN c), .bool (isHex c)]) ∧ w = w' := by
  have h := idx_hex c.toNat (by omega)
  rw [show ((c.toNat : Nat) : Int) = c from Int.toNat_of_nonneg h0] at h
  obtain ⟨h2, h3⟩ := h
  have HA := Lib.hid h2
  have HB := Lib.hid h3
  clear h2 h3
  have HG := Lib.hid (Lib.indexByte_ge digs.data.toList c.toNat.toUInt8)
  go_enter Try.func23, Try.ntmps23
  go_wp2_with fail
  refine (Try.strings_IndexByte digs c _).mono ?_
  rintro e w' ⟨rfl, rfl⟩
  generalize Lib.indexByte digs.data.toList c.toNat.toUInt8 = x at *
  go_wp2
  go_ret2
  refine ⟨?_, rfl⟩
  rw [← HB.out]
  have : decide (0 ≤ x) = isHex c := by
    have := HA.out
    cases hx : isHex c <;> simp [hx] at this ⊢ <;> omega
  rw [← this]
  rfl
theorem hexN_lo {c : Int} (h : 48 ≤ c ∧ c ≤ 57) : hexN c = c - 48 ∧ isHex c = true := by
  unfold hexN isHex
  rw [if_pos h]
  simp [h]
theorem hexN_hi {c : Int} (h : 97 ≤ c ∧ c ≤ 102) : hexN c = c - 87 ∧ isHex c = true := by
  unfold hexN isHex
  rw [if_neg (by omega), if_pos h]
  simp [h]
theorem hexN_no {c : Int} (h : ¬ (48 ≤ c ∧ c ≤ 57)) (h' : ¬ (97 ≤ c ∧ c ≤ 102)) : hexN c = 0 ∧ isHex c = false := by
  unfold hexN isHex
  rw [if_neg h, if_neg h']
  exact ⟨rfl, by simp only [decide_eq_false_iff_not]; omega⟩
set_option maxHeartbeats 400000 in
set_option maxRecDepth 10000 in
theorem digit2_any (c : Int) (h0 : 0 ≤ c) (h1 : c < 256) (w : World) :
    Calls Try.prog 27 #[.int .u8 c] w fun e w' => e = .returned (.tuple #[.int .i64 (hexN c), .bool (isHex c)]) ∧ w = w' := by
  go_enter Try.func27, Try.ntmps27
  by_cases ha : 48 ≤ c
  · by_cases hb : c ≤ 57
    · go_wp2
      go_ret2
      rw [(hexN_lo ⟨ha, hb⟩).1, (hexN_lo ⟨ha, hb⟩).2]
      exact ⟨rfl, rfl⟩
    · by_cases hc : 97 ≤ c
      · by_cases hd : c ≤ 102
        · go_wp2
          go_ret2
          rw [(hexN_hi ⟨hc, hd⟩).1, (hexN_hi ⟨hc, hd⟩).2]
          exact ⟨rfl, rfl⟩
        · go_wp2
          go_ret2
          rw [(hexN_no (by omega) (by omega)).1, (hexN_no (by omega) (by omega)).2]
          exact ⟨rfl, rfl⟩
      · go_wp2
        go_ret2
        rw [(hexN_no (c := c) (by omega) (by omega)).1, (hexN_no (c := c) (by omega) (by omega)).2]
        exact ⟨rfl, rfl⟩
  · go_wp2
    go_ret2
    rw [(hexN_no (c := c) (by omega) (by omega)).1, (hexN_no (c := c) (by omega) (by omega)).2]
    exact ⟨rfl, rfl⟩
end Go.Proofs.Ytonblhannoinfaa
