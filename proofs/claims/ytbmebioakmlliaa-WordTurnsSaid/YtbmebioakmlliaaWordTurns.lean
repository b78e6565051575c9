/- The walk of WordTurns. -/
import Derived.Test.YtbmebioakmlliaaWordAlive
namespace Go.Proofs.Ytbmebioakmlliaa
open Go.RowKit
set_option maxHeartbeats 2000000 in
set_option maxRecDepth 100000 in
theorem wordTurns_walk (x y z n m : Int) (w : World) (hx : 0 ≤ x ∧ x < 4294967296) (hy : 0 ≤ y ∧ y < 4294967296) (hz : 0 ≤ z ∧ z < 4294967296) (_hn : -9223372036854775808 ≤ n ∧ n ≤ 9223372036854775807) (_hm : -9223372036854775808 ≤ m ∧ m ≤ 9223372036854775807) :
    Calls Try.prog 6 #[.int .u32 x, .int .u32 y, .int .u32 z, .int .i64 n, .int .i64 m] w fun e w' => e = .returned (.bool true) ∧ Below w.heap.size w w' := by
  have f1 : (turnI (turnI x n) m == turnI x (n.tmod 32 + m.tmod 32)) = true := by rw [turn_sum x hx]; simp
  have f2 : (turnI (turnI x n) (-(n.tmod 32)) == x) = true := by rw [turn_back x hx]; simp
  have f3 : (turnI x (n.tmod 32) == turnI x n) = true := by rw [turn_tmod x hx]; simp
  have f4 : (turnI x 32 == x) = true := by rw [turn_32 x hx]; simp
  have f5 : (chooseI (turnI x n) (turnI y n) (turnI z n) == turnI (chooseI x y z) n) = true := by rw [turn_choose x y z hx hy hz]; simp
  have f6 : (oddI (turnI x n) (turnI y n) (turnI z n) == turnI (oddI x y z) n) = true := by rw [turn_odd x y z hx hy hz]; simp
  have f7 : (mostI (turnI x n) (turnI y n) (turnI z n) == turnI (mostI x y z) n) = true := by rw [turn_most x y z hx hy hz]; simp
  have b1 := tmod_bd n
  have b2 := tmod_bd m
  clear _hn _hm
  go_enter Try.func6, Try.ntmps6
  go_wp2_with fail
  refine (wordAlive_any _).mono ?_
  rintro e w1 ⟨rfl, hb⟩
  go_wp2_with fail
  refine (turn_any _ _ _).mono ?_
  rintro e w' ⟨rfl, rfl⟩
  go_wp2_with fail
  refine (turn_any _ _ _).mono ?_
  rintro e w' ⟨rfl, rfl⟩
  go_wp2_with fail
  refine (turn_any _ _ _).mono ?_
  rintro e w' ⟨rfl, rfl⟩
  go_wp2_with fail
  refine (turn_any _ _ _).mono ?_
  rintro e w' ⟨rfl, rfl⟩
  go_wp2_with fail
  refine (turn_any _ _ _).mono ?_
  rintro e w' ⟨rfl, rfl⟩
  go_wp2_with fail
  refine (turn_any _ _ _).mono ?_
  rintro e w' ⟨rfl, rfl⟩
  go_wp2_with fail
  refine (turn_any _ _ _).mono ?_
  rintro e w' ⟨rfl, rfl⟩
  go_wp2_with fail
  refine (turn_any _ _ _).mono ?_
  rintro e w' ⟨rfl, rfl⟩
  go_wp2_with fail
  refine (turn_any _ _ _).mono ?_
  rintro e w' ⟨rfl, rfl⟩
  go_wp2_with fail
  refine (choose_any _ _ _ _).mono ?_
  rintro e w' ⟨rfl, rfl⟩
  go_wp2_with fail
  refine (choose_any _ _ _ _).mono ?_
  rintro e w' ⟨rfl, rfl⟩
  go_wp2_with fail
  refine (turn_any _ _ _).mono ?_
  rintro e w' ⟨rfl, rfl⟩
  go_wp2_with fail
  refine (odd_any _ _ _ _).mono ?_
  rintro e w2 ⟨rfl, hb2⟩
  go_wp2_with fail
  refine (odd_any _ _ _ _).mono ?_
  rintro e w3 ⟨rfl, hb3⟩
  go_wp2_with fail
  refine (turn_any _ _ _).mono ?_
  rintro e w' ⟨rfl, rfl⟩
  go_wp2_with fail
  refine (most_any _ _ _ _).mono ?_
  rintro e w' ⟨rfl, rfl⟩
  go_wp2_with fail
  refine (most_any _ _ _ _).mono ?_
  rintro e w' ⟨rfl, rfl⟩
  go_wp2_with fail
  refine (turn_any _ _ _).mono ?_
  rintro e w' ⟨rfl, rfl⟩
  go_wp2
  go_ret
  exact ⟨rfl, (hb.trans (hb2.mono hb.size)).trans (hb3.mono (Nat.le_trans hb.size hb2.size))⟩
end Go.Proofs.Ytbmebioakmlliaa
