/- Layer 4 (chain): the document's Make where it refuses. -/
import Derived.Test.YtonblhannoinfaaChainJ
namespace Go.Proofs.Ytonblhannoinfaa
open Go.RowKit
set_option maxHeartbeats 1000000 in
set_option maxRecDepth 10000 in
theorem refmake_arg (s : ByteArray) (n : Int) (w : World) (hn : n < 0 ∨ 256 < n) :
    Calls Try.prog 45 #[.string s, .int .i64 n] w fun e w' => e = .returned (.tuple #[.slice none 0 0, .int .i64 2]) ∧ Below w.heap.size w w' := by
  have hcase : n < 0 ∨ (¬ n < 0 ∧ 256 < n) := by omega
  clear hn
  go_enter Try.func45, Try.ntmps45
  rcases hcase with h1 | ⟨h1, h2⟩
  all_goals
    go_wp2
    exact bodyPost_ret (v := .tuple #[.slice none 0 0, .int .i64 2]) (by simp [results, Try.results45, go_sem]) rfl ⟨rfl, Below.refl _ _⟩
set_option maxHeartbeats 1000000 in
set_option maxRecDepth 10000 in
theorem refmake_many (s : ByteArray) (n : Int) (w : World) (hs : 16384 < s.size) (hm : s.size ≤ maxLen) (hn : 0 ≤ n ∧ n ≤ 256) :
    Calls Try.prog 45 #[.string s, .int .i64 n] w fun e w' => e = .returned (.tuple #[.slice none 0 0, .int .i64 4]) ∧ Below w.heap.size w w' := by
  unfold maxLen at hm
  have h1 : (16384 : Int) < (s.size : Int) := by omega
  have h2 : ¬ (256 : Int) < n := by omega
  have h3 : ¬ n < 0 := by omega
  go_enter Try.func45, Try.ntmps45
  go_wp2
  exact bodyPost_ret (v := .tuple #[.slice none 0 0, .int .i64 4]) (by simp [results, Try.results45, go_sem]) rfl ⟨rfl, Below.refl _ _⟩
end Go.Proofs.Ytonblhannoinfaa
