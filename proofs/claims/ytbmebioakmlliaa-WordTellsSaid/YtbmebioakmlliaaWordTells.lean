/- walk of WordTells -/
import Derived.Test.YtbmebioakmlliaaWord
import Derived.Test.YtbmebioakmlliaaThree
namespace Go.Proofs.Ytbmebioakmlliaa
open Go.RowKit
set_option maxHeartbeats 400000 in
set_option maxRecDepth 10000 in
theorem wordTells_walk (x y z n : Int) (A : Option Addr) (m c : Nat) (l : List Int) (w : World) (hx : 0 ≤ x ∧ x < 4294967296) (hy : 0 ≤ y ∧ y < 4294967296) (hz : 0 ≤ z ∧ z < 4294967296) (hn : -9223372036854775808 ≤ n ∧ n ≤ 9223372036854775807) (h : Rd w w.heap.size 1 A m (ints .u32 l)) (hl : ∀ x ∈ l, 0 ≤ x ∧ x < 4294967296) :
    Calls Try.prog 3 #[.int .u32 x, .int .u32 y, .int .u32 z, .int .i64 n, .slice A m c] w fun e w' => e = .returned (.bool true) ∧ Below w.heap.size w w' := by
  by_cases hm : 500 < m
  · have hm' : (500 : Int) < (m : Int) := by omega
    go_enter Try.func3, Try.ntmps3
    go_wp2
    go_ret
    exact ⟨rfl, Below.refl _ _⟩
  · go_enter Try.func3, Try.ntmps3
    have h0 : (w.alloc (.cells #[] 22)).ownsRow w.heap.size 22 1 (.slice (some ⟨w.heap.size, 0, none⟩) 0 0) 0 (ints .u32 []) := World.ownsRow_lit w #[] 0 (Nat.le_refl _) (by unfold maxLen; omega) rfl
    have hcap : w.heap.size ≤ (w.alloc (.cells #[] 22)).heap.size := by simp
    go_wp2_with (at_builtin; refine app_u32s rfl _ _ rfl w.heap.size _ _ _ rfl h0 w.heap.size _ _ _ l rfl (h.alloc (Nat.le_refl _) _) (by omega) hcap ?_)
    intro v w1 hown hg1 _
    obtain ⟨A1, c1, rfl⟩ := own_form hown
    have hB1 : Below w.heap.size w w1 := ((Below.refl _ w).alloc (Nat.le_refl _) _).grown hg1 (by simp) (by intro k hk; simp [Value.ownBlock] at hk; omega)
    have hr1 : Rd w1 w1.heap.size 1 A1 m (ints .u32 l) := Rd.of_own hown
    have hr : Rd w1 w.heap.size 1 A m (ints .u32 l) := h.below hB1 (Nat.le_refl _)
    have hw1 : Hid (Below w.heap.size w w1) := hB1
    clear hB1 hg1 hown h0 hcap h
    go_wp2_with fail
    refine (turn_any x n _).mono ?_
    rintro e w' ⟨rfl, rfl⟩
    go_wp2_with fail
    refine (refturn_eq x n hx hn _).mono ?_
    rintro e w' ⟨rfl, rfl⟩
    go_wp2_with fail
    refine (sum_any _ _ _ _ l _ (by omega) hr1).mono ?_
    rintro e w' ⟨rfl, rfl⟩
    go_wp2_with fail
    refine (refsum_any _ _ _ _ l hl _ (by omega) hr).mono ?_
    rintro e w' ⟨rfl, rfl⟩
    go_wp2_with fail
    refine (same_any _ _ _ _ _ _ _ _ l l _ (by omega) (by omega) hr1 hr).mono ?_
    rintro e w' ⟨rfl, nd, rfl⟩
    go_wp2_with fail
    refine (choose_any x y z _).mono ?_
    rintro e w' ⟨rfl, rfl⟩
    go_wp2_with fail
    refine (refchoose_any x y z hx hy hz _).mono ?_
    rintro e w' ⟨rfl, rfl⟩
    go_wp2_with fail
    refine (odd_any x y z _).mono ?_
    rintro e w2 ⟨rfl, hb⟩
    go_wp2_with fail
    refine (refodd_any x y z hx hy hz _).mono ?_
    rintro e w' ⟨rfl, rfl⟩
    go_wp2_with fail
    refine (most_any x y z _).mono ?_
    rintro e w' ⟨rfl, rfl⟩
    go_wp2_with fail
    refine (refmost_any x y z hx hy hz _).mono ?_
    rintro e w' ⟨rfl, rfl⟩
    go_wp2
    go_ret
    exact ⟨rfl, (below_drewN hw1.out nd).trans (hb.mono hw1.out.size)⟩
end Go.Proofs.Ytbmebioakmlliaa
