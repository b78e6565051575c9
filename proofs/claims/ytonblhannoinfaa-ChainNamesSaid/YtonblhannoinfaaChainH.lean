/- Layer 4 (chain): chain.Make where it refuses. -/
import Derived.Test.YtonblhannoinfaaChainF
namespace Go.Proofs.Ytonblhannoinfaa
open Go.RowKit
set_option maxHeartbeats 1000000 in
set_option maxRecDepth 10000 in
theorem make_arg (s : ByteArray) (n : Int) (w : World) (hn : n < 0 ∨ 256 < n) :
    Calls Try.prog 41 #[.string s, .int .i64 n] w fun e w' => e = .returned (.tuple #[.slice none 0 0, .int .i64 2]) ∧ Below w.heap.size w w' := by
  have b3 : VarAt ((w.alloc (.cells #[.int .i64 n] 3)).alloc (.cells #[.slice none 0 0] 58)) w.heap.size 3 (.int .i64 n) := heap_alloc2_old w _ _
  have b4 : VarAt ((w.alloc (.cells #[.int .i64 n] 3)).alloc (.cells #[.slice none 0 0] 58)) (w.heap.size + 1) 58 (.slice none 0 0) := heap_alloc2_new w _ _
  have hb : Below w.heap.size w ((w.alloc (.cells #[.int .i64 n] 3)).alloc (.cells #[.slice none 0 0] 58)) := ((Below.refl _ w).alloc (Nat.le_refl _) _).alloc (by simp) _
  have hcase : n < 0 ∨ (¬ n < 0 ∧ 256 < n) := by omega
  clear hn
  go_enter Try.func41, Try.ntmps41
  go_wp2_with fail
  generalize (w.alloc (.cells #[.int .i64 n] 3)).alloc (.cells #[.slice none 0 0] 58) = wa at *
  have HB := Lib.hid (hb.setCell (p := ⟨w.heap.size + 1, 0, none⟩) (by show w.heap.size ≤ w.heap.size + 1; omega) (.slice none 0 0))
  have HV := Lib.hid (b4.set (.slice none 0 0))
  go_step3
  have c3 := b3.cell
  have c4 := b4.cell
  have f4 := b4.frozen
  clear hb b3 b4
  rcases hcase with h1 | ⟨h1, h2⟩
  all_goals
    go_wp2
    rw [Exit.noGoto_ret]
    exact bodyPost_ret (v := .tuple #[.slice none 0 0, .int .i64 2]) (make_results _ rfl rfl HV.out) rfl ⟨rfl, HB.out⟩
set_option maxHeartbeats 1000000 in
set_option maxRecDepth 10000 in
theorem make_many (s : ByteArray) (n : Int) (w : World) (hs : 16384 < s.size) (hm : s.size ≤ maxLen) (hn : 0 ≤ n ∧ n ≤ 256) :
    Calls Try.prog 41 #[.string s, .int .i64 n] w fun e w' => e = .returned (.tuple #[.slice none 0 0, .int .i64 4]) ∧ Below w.heap.size w w' := by
  have hnx := next_any s hm
  rw [show nextErr s = 4 by unfold nextErr; rw [if_pos hs]] at hnx
  have HNX := Lib.hid hnx
  have b3 : VarAt ((w.alloc (.cells #[.int .i64 n] 3)).alloc (.cells #[.slice none 0 0] 58)) w.heap.size 3 (.int .i64 n) := heap_alloc2_old w _ _
  have b4 : VarAt ((w.alloc (.cells #[.int .i64 n] 3)).alloc (.cells #[.slice none 0 0] 58)) (w.heap.size + 1) 58 (.slice none 0 0) := heap_alloc2_new w _ _
  have hb : Below w.heap.size w ((w.alloc (.cells #[.int .i64 n] 3)).alloc (.cells #[.slice none 0 0] 58)) := ((Below.refl _ w).alloc (Nat.le_refl _) _).alloc (by simp) _
  clear hnx
  generalize nextO s = S1 at *
  go_enter Try.func41, Try.ntmps41
  go_wp2_with fail
  generalize (w.alloc (.cells #[.int .i64 n] 3)).alloc (.cells #[.slice none 0 0] 58) = wa at *
  go_step3
  have c3 := b3.cell
  have c4 := b4.cell
  go_wp2_with fail
  refine (HNX.out wa).mono ?_
  rintro e w1 ⟨rfl, hb1⟩
  have b41 := b4.ext hb1
  have HB := Lib.hid ((hb.trans (hb1.mono hb.size)).setCell (p := ⟨w.heap.size + 1, 0, none⟩) (by show w.heap.size ≤ w.heap.size + 1; omega) (.slice none 0 0))
  have HV := Lib.hid (b41.set (.slice none 0 0))
  have c41 := b41.cell
  have f41 := b41.frozen
  clear hb b3 b4 c3 c4 hb1 b41
  go_wp2
  rw [Exit.noGoto_ret]
  exact bodyPost_ret (v := .tuple #[.slice none 0 0, .int .i64 4]) (make_results _ rfl rfl HV.out) rfl ⟨rfl, HB.out⟩
end Go.Proofs.Ytonblhannoinfaa
