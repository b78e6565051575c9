/- The walk of HexNames. -/
import Derived.Test.YtonblhannoinfaaHexAlive
namespace Go.Proofs.Ytonblhannoinfaa
open Go.RowKit
theorem get_lit0 (s : ByteArray) (k : Int) (hs : s.size ≤ maxLen) (h1 : getErr s = k) (h2 : getO s = []) (w : World) :
    Calls Try.prog 22 #[.string s] w fun e w' => ∃ A c, e = .returned (.tuple #[.slice A 0 c, .int .i64 k]) ∧ Below w.heap.size w w' := by
  refine (get_lit s [] 0 k hs rfl h1 h2 w).mono ?_
  rintro e w' ⟨A, c, h, _, hb⟩
  exact ⟨A, c, h, hb⟩
theorem zeros_str (m : Nat) (W : World) (c : Nat) (A : Option Addr) (h : Rd W W.heap.size 1 A m (ints .u8 (List.replicate m 0))) : ∃ s : ByteArray, s.size = m ∧ (convert 28 9 (.slice A m c)).run Try.prog W = .ok (.string s) W :=
  ⟨_, by rw [strOfNums_size, List.length_replicate], conv_rd h⟩
set_option maxHeartbeats 2000000 in
set_option maxRecDepth 100000 in
theorem hexNames_walk (w : World) :
    Calls Try.prog 4 #[] w fun e w' => e = .returned (.bool true) ∧ Below w.heap.size w w' := by
  obtain ⟨i0, hi, hz0, hz1, hz2⟩ := info_parts info_u8
  have G1 := Lib.hid (get_lit0 ⟨#[48, 65, 66]⟩ 10 (by unfold maxLen; decide) (by decide +kernel) (by decide +kernel))
  have G2 := Lib.hid (get_lit0 ⟨#[48, 97, 98]⟩ 10 (by unfold maxLen; decide) (by decide +kernel) (by decide +kernel))
  have G3 := Lib.hid (get_lit0 ⟨#[103, 103]⟩ 10 (by unfold maxLen; decide) (by decide +kernel) (by decide +kernel))
  have G4 := Lib.hid (get_lit0 ⟨#[]⟩ 0 (by unfold maxLen; decide) (by decide +kernel) (by decide +kernel))
  have D1 := Lib.hid (digit_at 102 15 true (by omega) (by omega) (by decide +kernel) (by decide +kernel))
  have D2 := Lib.hid (digit_at 70 0 false (by omega) (by omega) (by decide +kernel) (by decide +kernel))
  have I1 := Lib.hid (is_lit ⟨#[]⟩ 0 true (by decide +kernel))
  have I2 := Lib.hid (is_lit ⟨#[]⟩ (-1) false (by decide +kernel))
  have P1 := Lib.hid (fun W => put_lit none 0 0 0 [] ⟨#[]⟩ W (by omega) (Nat.zero_le _) (by intro x hx; cases hx) Rd.none_ rfl)
  have hmk : ∀ W : World, ∃ s : ByteArray, s.size = 16385 ∧ ∃ w', (Instr.makeSlice 28 (.int .i64 16385) (.int .i64 16385)).run Try.prog W = .ok (.slice (some ⟨W.heap.size, 0, none⟩) 16385 16385) w' ∧ W.grownBy w' none ∧
      (convert 28 9 (.slice (some ⟨W.heap.size, 0, none⟩) 16385 16385)).run Try.prog w' = .ok (.string s) w' := fun W => by
    obtain ⟨w', h1, h2, h3⟩ := run_make_full (P := Try.prog) W W.heap.size 28 5 i0 (.int .u8 0) 1 Try.underlying28 hi hz0 hz1 .i64 .i64 16385 (by rw [hz2]; decide) (by unfold maxLen; decide) (Nat.le_refl _)
    have e : (madeCells (Value.int .u8 0).cells (16385 * 1)).toList = ints .u8 (List.replicate 16385 0) := by
      rw [Nat.mul_one]; exact congrArg Array.toList (made_u8 16385)
    rw [e] at h2
    obtain ⟨s, hs, hc⟩ := zeros_str 16385 w' 16385 _ (Rd.of_own h2)
    exact ⟨s, hs, w', h1, h3, hc⟩
  have HM := Lib.hid hmk
  clear hmk
  go_enter Try.func4, Try.ntmps4
  go_wp2_with fail
  refine (G1.out _).mono ?_
  rintro e w1 ⟨A1, c1, rfl, hb1⟩
  have HB1 := Lib.hid hb1
  clear hb1
  go_wp2_with fail
  refine (G2.out _).mono ?_
  rintro e w2 ⟨A2, c2, rfl, hb2⟩
  have HB2 := Lib.hid (HB1.out.trans (hb2.mono HB1.out.size))
  clear hb2
  go_wp2_with fail
  refine (G3.out _).mono ?_
  rintro e w3 ⟨A3, c3, rfl, hb3⟩
  have HB3 := Lib.hid (HB2.out.trans (hb3.mono HB2.out.size))
  clear hb3
  go_wp2_with fail
  refine (G4.out _).mono ?_
  rintro e w4 ⟨A4, c4, rfl, hb4⟩
  have HB4 := Lib.hid (HB3.out.trans (hb4.mono HB3.out.size))
  clear hb4
  obtain ⟨s, hs, w5, hrun, hgr, hcv⟩ := HM.out w4
  have HB5 := Lib.hid (HB4.out.grown hgr HB4.out.size (by simp))
  have HS := Lib.hid hs
  have G5 := Lib.hid (get_lit0 s 4 (by rw [hs]; unfold maxLen; decide) (get_many s (by rw [hs]; decide)).1 (get_many s (by rw [hs]; decide)).2)
  clear hgr hs
  go_wp2_with fail
  refine (G5.out _).mono ?_
  rintro e w6 ⟨A6, c6, rfl, hb6⟩
  have HB6 := Lib.hid (HB5.out.trans (hb6.mono HB5.out.size))
  clear hb6 hrun hcv
  go_wp2_with fail
  refine (D1.out _).mono ?_
  rintro e w' ⟨rfl, rfl⟩
  go_wp2_with fail
  refine (D2.out _).mono ?_
  rintro e w' ⟨rfl, rfl⟩
  go_wp2_with fail
  refine (hexAlive_any w6).mono ?_
  rintro e w7 ⟨rfl, hb7⟩
  have HB7 := Lib.hid (HB6.out.trans (hb7.mono HB6.out.size))
  clear hb7
  go_wp2_with fail
  refine (P1.out w7).mono ?_
  rintro e w8 ⟨rfl, hb8⟩
  have HB8 := Lib.hid (HB7.out.trans (hb8.mono HB7.out.size))
  clear hb8
  go_wp2_with fail
  refine (I1.out w8).mono ?_
  rintro e w9 ⟨rfl, hb9⟩
  have HB9 := Lib.hid (HB8.out.trans (hb9.mono HB8.out.size))
  clear hb9
  go_wp2_with fail
  refine (I2.out w9).mono ?_
  rintro e wa ⟨rfl, hba⟩
  have HBa := Lib.hid (HB9.out.trans (hba.mono HB9.out.size))
  clear hba
  go_wp2
  go_ret
  exact ⟨rfl, HBa.out⟩
end Go.Proofs.Ytonblhannoinfaa
