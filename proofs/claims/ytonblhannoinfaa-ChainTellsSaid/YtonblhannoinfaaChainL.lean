/- Layer 4 (chain): both Makes answer one list. -/
import Derived.Test.YtonblhannoinfaaChainK
namespace Go.Proofs.Ytonblhannoinfaa
open Go.RowKit
def MakePost (L : List ByteArray) (m : Nat) (er : Int) (w : World) (e : Ending) (w' : World) : Prop :=
  ∃ A c, e = .returned (.tuple #[.slice A m c, .int .i64 er]) ∧ Rd w' w'.heap.size 1 A m (strs L) ∧ Below w.heap.size w w'
theorem make_both (s : ByteArray) (n : Int) (hm : s.size ≤ maxLen) : ∃ (L : List ByteArray) (m : Nat) (er : Int), m ≤ 256 ∧
    (∀ W, Calls Try.prog 41 #[.string s, .int .i64 n] W (MakePost L m er W)) ∧ (∀ W, Calls Try.prog 45 #[.string s, .int .i64 n] W (MakePost L m er W)) := by
  by_cases hn : 0 ≤ n ∧ n ≤ 256
  · by_cases hs : 16384 < s.size
    · refine ⟨[], 0, 4, by omega, fun W => (make_many s n W hs hm hn).mono ?_, fun W => (refmake_many s n W hs hm hn).mono ?_⟩
      all_goals
        rintro e w' ⟨rfl, hb⟩
        exact ⟨none, 0, rfl, Rd.none_, hb⟩
    · obtain ⟨N, rfl⟩ : ∃ N : Nat, n = (N : Int) := ⟨n.toNat, by omega⟩
      refine ⟨keysL s N, N, 0, by omega, fun W => (make_ok s (N : Int) W (by omega) hn).mono ?_, fun W => (refmake_ok s N W (by omega) (by omega)).mono ?_⟩
      all_goals
        rintro e w' ⟨v, rfl, hown, hb⟩
        obtain ⟨A, c, rfl⟩ := own_form hown
        exact ⟨A, c, rfl, Rd.of_own hown, hb⟩
  · have h : n < 0 ∨ 256 < n := by omega
    refine ⟨[], 0, 2, by omega, fun W => (make_arg s n W h).mono ?_, fun W => (refmake_arg s n W h).mono ?_⟩
    all_goals
      rintro e w' ⟨rfl, hb⟩
      exact ⟨none, 0, rfl, Rd.none_, hb⟩
end Go.Proofs.Ytonblhannoinfaa
