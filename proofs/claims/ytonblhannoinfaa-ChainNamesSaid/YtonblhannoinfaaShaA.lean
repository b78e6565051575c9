/- Layer 3 (sha), the document's: what a round puts together, its constant, a round; a typed region's steps that load, index, build. -/
import Derived.Test.YtonblhannoinfaaWordOf
import Derived.Test.YtonblhannoinfaaPlainSha
import Derived.Test.YtonblhannoinfaaSteps
import Derived.Outline
import Derived.Laws.CopyOwn
import Derived.Laws.Rows
namespace Go.Proofs.Ytonblhannoinfaa
open Go.RowKit
def U32 (x : Int) : Prop := 0 ≤ x ∧ x < 4294967296
set_option maxHeartbeats 1000000 in
set_option maxRecDepth 10000 in
theorem refput_any (t : Nat) (x y z : Int) (hx : U32 x) (hy : U32 y) (hz : U32 z) (w : World) :
    Calls Try.prog 76 #[.int .i64 t, .int .u32 x, .int .u32 y, .int .u32 z] w fun e w' => e = .returned (.int .u32 (putI t x y z)) ∧ w = w' := by
  have HX := Lib.hid hx
  have HY := Lib.hid hy
  have HZ := Lib.hid hz
  unfold U32 at hx hy hz
  obtain ⟨hx0, hx1⟩ := hx
  obtain ⟨hy0, hy1⟩ := hy
  obtain ⟨hz0, hz1⟩ := hz
  by_cases h1 : t < 20
  · go_enter Try.func76, Try.ntmps76
    go_wp2
    go_ret
    refine ⟨ret_int ?_, rfl⟩
    unfold putI
    rw [if_pos h1, ← choose_ref HX.out HY.out HZ.out]
  · by_cases h2 : t < 40
    · go_enter Try.func76, Try.ntmps76
      go_wp2
      go_ret
      refine ⟨ret_int ?_, rfl⟩
      unfold putI
      rw [if_neg h1, if_pos h2, ← odd_xor HX.out HY.out HZ.out]
    · by_cases h3 : t < 60
      · go_enter Try.func76, Try.ntmps76
        go_wp2
        go_ret
        refine ⟨ret_int ?_, rfl⟩
        unfold putI
        rw [if_neg h1, if_neg h2, if_pos h3, ← most_ref HX.out HY.out HZ.out]
      · go_enter Try.func76, Try.ntmps76
        go_wp2
        go_ret
        refine ⟨ret_int ?_, rfl⟩
        unfold putI
        rw [if_neg h1, if_neg h2, if_neg h3, ← odd_xor HX.out HY.out HZ.out]
set_option maxHeartbeats 1000000 in
theorem refcon_any (t : Nat) (w : World) :
    Calls Try.prog 77 #[.int .i64 t] w fun e w' => e = .returned (.int .u32 (conI t)) ∧ w = w' := by
  by_cases h1 : t < 20
  · go_enter Try.func77, Try.ntmps77
    go_wp2
    go_ret
    exact ⟨ret_int (by unfold conI; rw [if_pos h1]), rfl⟩
  · by_cases h2 : t < 40
    · go_enter Try.func77, Try.ntmps77
      go_wp2
      go_ret
      exact ⟨ret_int (by unfold conI; rw [if_neg h1, if_pos h2]), rfl⟩
    · by_cases h3 : t < 60
      · go_enter Try.func77, Try.ntmps77
        go_wp2
        go_ret
        exact ⟨ret_int (by unfold conI; rw [if_neg h1, if_neg h2, if_pos h3]), rfl⟩
      · go_enter Try.func77, Try.ntmps77
        go_wp2
        go_ret
        exact ⟨ret_int (by unfold conI; rw [if_neg h1, if_neg h2, if_neg h3]), rfl⟩
theorem choose_bd {x y z : Int} (hx : U32 x) (hy : U32 y) (hz : U32 z) : U32 (chooseI x y z) := by
  obtain ⟨X, rfl⟩ := exW x hx.1 hx.2
  obtain ⟨Y, rfl⟩ := exW y hy.1 hy.2
  obtain ⟨Z, rfl⟩ := exW z hz.1 hz.2
  rw [choose_W]; exact ofW_bd _
theorem most_bd {x y z : Int} (hx : U32 x) (hy : U32 y) (hz : U32 z) : U32 (mostI x y z) := by
  obtain ⟨X, rfl⟩ := exW x hx.1 hx.2
  obtain ⟨Y, rfl⟩ := exW y hy.1 hy.2
  obtain ⟨Z, rfl⟩ := exW z hz.1 hz.2
  rw [most_W]; exact ofW_bd _
theorem putI_bd (t : Nat) {x y z : Int} (hx : U32 x) (hy : U32 y) (hz : U32 z) : U32 (putI t x y z) := by
  unfold putI
  split
  · exact choose_bd hx hy hz
  · split
    · exact odd_bd hx hy hz
    · split
      · exact most_bd hx hy hz
      · exact odd_bd hx hy hz
theorem conI_bd (t : Nat) : U32 (conI t) := by
  unfold conI U32
  split
  · omega
  · split
    · omega
    · split <;> omega
set_option maxHeartbeats 1000000 in
set_option maxRecDepth 10000 in
theorem refround_any (t : Nat) (a b c d e x : Int) (w : World) (ha : U32 a) (hb : U32 b) (hc : U32 c) (hd : U32 d) (he : U32 e) (hx : U32 x) :
    Calls Try.prog 55 #[.agg #[.int .u32 a, .int .u32 b, .int .u32 c, .int .u32 d, .int .u32 e], .int .i64 t, .int .u32 x] w fun e' w' =>
      e' = .returned (.agg #[.int .u32 (sumI [turnI a 5, putI t b c d, e, conI t, x]), .int .u32 a, .int .u32 (turnI b 30), .int .u32 c, .int .u32 d]) ∧ Below w.heap.size w w' := by
  go_enter Try.func55, Try.ntmps55
  go_wp2
  have hcell : ∀ W, Ext ((w.alloc (.cells #[.int .u32 a, .int .u32 b, .int .u32 c, .int .u32 d, .int .u32 e] 23)).alloc (.cells #[.int .u32 0, .int .u32 0, .int .u32 0, .int .u32 0, .int .u32 0] 23)).drew W →
      ∀ j, W.cell? ⟨w.heap.size, j, none⟩ = (#[.int .u32 a, .int .u32 b, .int .u32 c, .int .u32 d, .int .u32 e] : Array Value)[j]? := fun W hW j => by
    rw [hW.cell (p := ⟨w.heap.size, j, none⟩) (by show w.heap.size < _; simp; omega)]
    exact cell_of_row _ _ j _ _ (0, 0) (heap_alloc2_old w _ _)
  refine wp_region_typed rfl (by kernel_rfl) (by kernel_rfl) ?_
  refine tw_one (s := 3) (c := .pointer (some ⟨w.heap.size, 0, none⟩)) (.pointer (some ⟨w.heap.size, 0, none⟩)) (by decide) rfl (wd_none rfl) (fun ρ W h1 h2 => by simp only [execOp, h1]; go_simp) ?_
  refine tw_ld rfl rfl (fun W hW => hcell W hW 0) (wd_none rfl) ?_
  refine tw_fn0 #[.int .u32 a, .int .i64 5] (.int .u32 (turnI a 5)) rfl (fun W => by go_simp) rfl (wd_none rfl) (fun W _ => refturn_eq a 5 ha (by omega) W) ?_
  refine tw_move (.inl (.int .i64 t)) (stable_is _) (.inl rfl) rfl (wd_none rfl) ?_
  refine tw_one (s := 3) (c := .pointer (some ⟨w.heap.size, 0, none⟩)) (.pointer (some ⟨w.heap.size, 1, none⟩)) (by decide) rfl (wd_none rfl) (fun ρ W h1 h2 => by simp only [execOp, h1]; go_simp) ?_
  refine tw_ld rfl rfl (fun W hW => hcell W hW 1) (wd_none rfl) ?_
  refine tw_one (s := 3) (c := .pointer (some ⟨w.heap.size, 0, none⟩)) (.pointer (some ⟨w.heap.size, 2, none⟩)) (by decide) rfl (wd_none rfl) (fun ρ W h1 h2 => by simp only [execOp, h1]; go_simp) ?_
  refine tw_ld rfl rfl (fun W hW => hcell W hW 2) (wd_none rfl) ?_
  refine tw_one (s := 3) (c := .pointer (some ⟨w.heap.size, 0, none⟩)) (.pointer (some ⟨w.heap.size, 3, none⟩)) (by decide) rfl (wd_none rfl) (fun ρ W h1 h2 => by simp only [execOp, h1]; go_simp) ?_
  refine tw_ld rfl rfl (fun W hW => hcell W hW 3) (wd_none rfl) ?_
  refine tw_fn0 #[.int .i64 t, .int .u32 b, .int .u32 c, .int .u32 d] (.int .u32 (putI t b c d)) rfl (fun W => by go_simp) rfl (wd_none rfl) (fun W _ => refput_any t b c d hb hc hd W) ?_
  refine tw_one (s := 3) (c := .pointer (some ⟨w.heap.size, 0, none⟩)) (.pointer (some ⟨w.heap.size, 4, none⟩)) (by decide) rfl (wd_none rfl) (fun ρ W h1 h2 => by simp only [execOp, h1]; go_simp) ?_
  refine tw_ld rfl rfl (fun W hW => hcell W hW 4) (wd_none rfl) ?_
  refine tw_move (.inl (.int .i64 t)) (stable_is _) (.inl rfl) rfl (wd_none rfl) ?_
  refine tw_fn0 #[.int .i64 t] (.int .u32 (conI t)) rfl (fun W => by go_simp) rfl (wd_none rfl) (fun W _ => refcon_any t W) ?_
  refine tw_move (.inl (.int .u32 x)) (stable_is _) (.inl rfl) rfl (wd_none rfl) ?_
  refine tw_new5 (turnI a 5) (putI t b c d) e (conI t) x rfl rfl rfl rfl rfl rfl (wd_none rfl) ?_
  refine tw_fnS [turnI a 5, putI t b c d, e, conI t, x] (.int .u32 (sumI [turnI a 5, putI t b c d, e, conI t, x])) rfl (fun args W => by go_simp) rfl (wd_none rfl)
    (fun A c' W hR => refsum_any A 5 c' _ [turnI a 5, putI t b c d, e, conI t, x] (by
      intro y hy
      simp at hy
      rcases hy with rfl | rfl | rfl | rfl | rfl
      · exact turn_bd a ha 5
      · exact putI_bd t hb hc hd
      · exact he
      · exact conI_bd t
      · exact hx) W (by omega) hR) ?_
  refine tw_move (.inl (.int .u32 (sumI [turnI a 5, putI t b c d, e, conI t, x]))) (stable_is _) (.inr rfl) rfl (wd_none rfl) ?_
  dsimp only [wpT, List.reverse, List.reverseAux, FinT, SlT]
  intro v1 W1 hW1 _
  simp only [Act.put, List.setIfInBounds_toArray, List.set_cons_zero, List.set_cons_succ]
  have HW1 := Lib.hid hW1
  have hcell2 : ∀ j, W1.cell? ⟨w.heap.size, j, none⟩ = (#[.int .u32 a, .int .u32 b, .int .u32 c, .int .u32 d, .int .u32 e] : Array Value)[j]? := hcell W1 hW1
  have HC2 := Lib.hid hcell2
  generalize hS : sumI [turnI a 5, putI t b c d, e, conI t, x] = S at *
  have HS := Lib.hid hS
  clear hS
  clear hcell hcell2 hW1
  have hheap : W1.heap[w.heap.size + 1]? = some (.cells #[.int .u32 0, .int .u32 0, .int .u32 0, .int .u32 0, .int .u32 0] 23 (0, 0)) := by
    rw [HW1.out.block (w.heap.size + 1) (by show _ < (World.heap _).size; simp)]
    exact heap_alloc2_new w _ _
  have HH := Lib.hid hheap
  clear hheap
  go_wp2_with fail
  have hcell3 : ∀ W, Ext W1.drew W → ∀ j, W.cell? ⟨w.heap.size, j, none⟩ = (#[.int .u32 a, .int .u32 b, .int .u32 c, .int .u32 d, .int .u32 e] : Array Value)[j]? := fun W hW j => by
    rw [hW.cell (p := ⟨w.heap.size, j, none⟩) (by show w.heap.size < W1.heap.size; have := HW1.out.size; simp at this; omega)]
    exact HC2.out j
  refine wp_region_typed_tail 11 rfl (by kernel_rfl) (by kernel_rfl) (by kernel_rfl) ?_
  refine tw_move (.inl (.int .u32 S)) (stable_is _) (.inl rfl) rfl (wd_none rfl) ?_
  refine tw_one (s := 3) (c := .pointer (some ⟨w.heap.size, 0, none⟩)) (.pointer (some ⟨w.heap.size, 0, none⟩)) (by decide) rfl (wd_none rfl) (fun ρ W h1 h2 => by simp only [execOp, h1]; go_simp) ?_
  refine tw_ld rfl rfl (fun W hW => hcell3 W hW 0) (wd_none rfl) ?_
  refine tw_one (s := 3) (c := .pointer (some ⟨w.heap.size, 0, none⟩)) (.pointer (some ⟨w.heap.size, 1, none⟩)) (by decide) rfl (wd_none rfl) (fun ρ W h1 h2 => by simp only [execOp, h1]; go_simp) ?_
  refine tw_ld rfl rfl (fun W hW => hcell3 W hW 1) (wd_none rfl) ?_
  refine tw_fn0 #[.int .u32 b, .int .i64 30] (.int .u32 (turnI b 30)) rfl (fun W => by go_simp) rfl (wd_none rfl) (fun W _ => refturn_eq b 30 hb (by omega) W) ?_
  refine tw_one (s := 3) (c := .pointer (some ⟨w.heap.size, 0, none⟩)) (.pointer (some ⟨w.heap.size, 2, none⟩)) (by decide) rfl (wd_none rfl) (fun ρ W h1 h2 => by simp only [execOp, h1]; go_simp) ?_
  refine tw_ld rfl rfl (fun W hW => hcell3 W hW 2) (wd_none rfl) ?_
  refine tw_one (s := 3) (c := .pointer (some ⟨w.heap.size, 0, none⟩)) (.pointer (some ⟨w.heap.size, 3, none⟩)) (by decide) rfl (wd_none rfl) (fun ρ W h1 h2 => by simp only [execOp, h1]; go_simp) ?_
  refine tw_ld rfl rfl (fun W hW => hcell3 W hW 3) (wd_none rfl) ?_
  refine tw_agg5 rfl rfl rfl rfl rfl rfl (wd_none rfl) ?_
  dsimp only [wpT, List.reverse, List.reverseAux, FinT, SlT, List.take, List.drop]
  intro W2 hW2 _
  simp only [Act.put, List.setIfInBounds_toArray, List.set_cons_zero, List.set_cons_succ]
  have hh2 : W2.heap[w.heap.size + 1]? = _ := (hW2.block (w.heap.size + 1) (by show _ < W1.heap.size; have := HW1.out.size; simp at this; omega)).trans HH.out
  have HB := Lib.hid ((((Below.refl w.heap.size w).alloc (Nat.le_refl _) (.cells #[.int .u32 a, .int .u32 b, .int .u32 c, .int .u32 d, .int .u32 e] 23)).alloc (by simp) (.cells #[.int .u32 0, .int .u32 0, .int .u32 0, .int .u32 0, .int .u32 0] 23)).drew.trans (Below.mono HW1.out (by show _ ≤ (World.heap _).size; simp; omega)))
  have HB2 := Lib.hid (HB.out.drew.trans (Below.mono hW2 (by show _ ≤ W1.heap.size; exact HB.out.size)))
  have hrow := setRow_heap W2 (w.heap.size + 1) _ #[.int .u32 S, .int .u32 a, .int .u32 (turnI b 30), .int .u32 c, .int .u32 d] _ _ hh2
  refine wpList_store_row rfl 23 _ _ rfl (w.heap.size + 1) #[.int .u32 S, .int .u32 a, .int .u32 (turnI b 30), .int .u32 c, .int .u32 d] rfl rfl _ _ hh2 (by kernel_rfl) rfl (by simp [Value.oneCell']) ?_
  go_wp2
  exact bodyPost_ret (v := .agg #[.int .u32 S, .int .u32 a, .int .u32 (turnI b 30), .int .u32 c, .int .u32 d])
    (results_cell_row (fn := Try.f55) (p := 6) (ty := 23) rfl _ _ (w.heap.size + 1) _ _ _ _ rfl hrow Try.underlying23 rfl (by kernel_rfl)) rfl ⟨by rw [HS.out], below_setRow HB2.out (by omega) _⟩
end Go.Proofs.Ytonblhannoinfaa
