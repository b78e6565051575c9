/- Layer 3 (sha): a block's schedule, the document's. -/
import Derived.Test.YtonblhannoinfaaShaB
namespace Go.Proofs.Ytonblhannoinfaa
open Go.RowKit
set_option maxHeartbeats 1000000 in
set_option maxRecDepth 10000 in
theorem refsched_any (cs : Array Value) (b : List Int) (hcs : ArrOf .u8 b cs) (hb : Bytes8 b) (hl : b.length = 64) (w : World) :
    Calls Try.prog 54 #[.agg cs] w fun e w' => ∃ ws, e = .returned (.agg ws) ∧ ArrOf .u32 (sched (wordsL b 16) 64) ws ∧ Below w.heap.size w w' := by
  have hL : (wordsL b 16).length = 16 := wordsL_length b 16
  have hLw : W32L (wordsL b 16) := wordsL_w32 hb 16
  have hrd := ((rd_arr hcs w 24 64 hl).alloc (by simp) (.cells Try.zeroCells78 78)).alloc (by simp) (.cells Try.zeroCells78 78)
  have hz : RowAt (((w.alloc (.cells cs 24)).alloc (.cells Try.zeroCells78 78)).alloc (.cells Try.zeroCells78 78)) (w.heap.size + 2) 78 .u32 (List.replicate 80 0) := by
    unfold RowAt
    rw [← zero80]
    have := heap_alloc_new ((w.alloc (.cells cs 24)).alloc (.cells Try.zeroCells78 78)) (.cells Try.zeroCells78 78)
    simpa using this
  have hy : RowAt (((w.alloc (.cells cs 24)).alloc (.cells Try.zeroCells78 78)).alloc (.cells Try.zeroCells78 78)) (w.heap.size + 1) 78 .u32 (List.replicate 80 0) := by
    unfold RowAt
    rw [← zero80]
    exact (heap_alloc_old _ _ (by simp)).trans (heap_alloc2_new w _ _)
  have HZ := Lib.hid hz
  have HY := Lib.hid hy
  have HL := Lib.hid hL
  have HLW := Lib.hid hLw
  have HB0 := Lib.hid ((((Below.refl w.heap.size w).alloc (Nat.le_refl _) (.cells cs 24)).alloc (by simp) (.cells Try.zeroCells78 78)).alloc (by simp; omega) (.cells Try.zeroCells78 78))
  clear hz hy hL hLw
  go_enter Try.func54, Try.ntmps54
  go_wp2_with fail
  refine (refof_ok _ 64 64 16 (w.heap.size + 1) b _ (by omega) (by omega) (by simp) hb hrd).mono ?_
  rintro e w1 ⟨v, rfl, hown, hb1⟩
  obtain ⟨g, c, rfl⟩ : ∃ g c, v = .slice (some ⟨g, 0, none⟩) 16 c := by
    rcases hown.2 with ⟨_, h0⟩ | ⟨g, cap, cur, hv, _⟩
    · omega
    · exact ⟨g, cap, hv⟩
  have hg := (hown.lt g rfl).1
  simp at hg
  have hr1 : ∀ (j : Nat) x, (wordsL b 16)[j]? = some x → w1.cell? ⟨g, j, none⟩ = some (.int .u32 x) := fun j x hx => by
    have := hown.cells (g := g) rfl j (.int .u32 x) (by simp [ints, hx])
    rwa [add_mk, Nat.zero_add] at this
  have hz1 := HZ.out.ext hb1
  have hy1 := HY.out.ext hb1
  have HB1 := Lib.hid (HB0.out.trans (hb1.mono (by simp; omega)))
  rw [← rowR_zero (wordsL b 16)] at hz1
  clear hown hrd hb1
  generalize hLL : wordsL b 16 = L at *
  have HLL := Lib.hid hLL
  clear hLL
  have HZ1 := Lib.hid hz1
  have HY1 := Lib.hid hy1
  have HR1 := Lib.hid hr1
  have hs1 := HB1.out.size
  clear hz1 hy1 hr1
  go_wp2
  go_loopw [6] (fun i wr => ∃ k : Nat, k ≤ 80 ∧ i = .int .i64 k ∧ RowAt wr (w.heap.size + 2) 78 .u32 (rowR L k) ∧ RowAt wr (w.heap.size + 1) 78 .u32 (List.replicate 80 0) ∧ (∀ (j : Nat) x, L[j]? = some x → wr.cell? ⟨g, j, none⟩ = some (.int .u32 x)) ∧ Below w.heap.size w wr ∧ g < wr.heap.size) (fun i _ => 80 - (intOf i).toNat)
  case atStart => exact ⟨0, by omega, rfl, HZ1.out, HY1.out, HR1.out, HB1.out, by
    obtain ⟨x, hx⟩ : ∃ x, L[0]? = some x := ⟨L[0]'(by rw [HL.out]; omega), List.getElem?_eq_getElem _⟩
    exact block_lt_of_cell (HR1.out 0 x hx)⟩
  case round =>
    obtain ⟨k, hk, rfl, hz, hy, hr, hbk, hgs⟩ := hrel
    have HBK := Lib.hid hbk
    have HZK := Lib.hid hz
    have HYK := Lib.hid hy
    have HRK := Lib.hid hr
    have hsk := hbk.size
    clear hbk hz hy hr
    by_cases h80 : k < 80
    · by_cases h16 : k < 16
      · obtain ⟨x, hx⟩ : ∃ x, L[k]? = some x := ⟨L[k]'(by rw [HL.out]; omega), List.getElem?_eq_getElem _⟩
        have hld := HRK.out k x hx
        have hfr := HZK.out.frozen k
        obtain ⟨y, hy⟩ : ∃ y, (rowR L k)[k]? = some y := ⟨(rowR L k)[k]'(by rw [rowR_length HL.out (by omega)]; omega), List.getElem?_eq_getElem _⟩
        have hcl := HZK.out.cell hy
        have hst := HZK.out.set k x
        rw [rowR_set HL.out h16 x hx] at hst
        have HST := Lib.hid hst
        have HY2 : Hid (RowAt (wr.setCell ⟨w.heap.size + 2, k, none⟩ (.int .u32 x)) (w.heap.size + 1) 78 .u32 (List.replicate 80 0)) := (heap_setCell_other wr _ (w.heap.size + 1) _ (by show w.heap.size + 1 ≠ w.heap.size + 2; omega)).trans HYK.out
        have HR2 : Hid (∀ (j : Nat) y, L[j]? = some y → (wr.setCell ⟨w.heap.size + 2, k, none⟩ (.int .u32 x)).cell? ⟨g, j, none⟩ = some (.int .u32 y)) := fun j y hj => by
          rw [World.cell?_setCell_other wr _ ⟨g, j, none⟩ _ (fun e => by injection e with e; omega)]
          exact HRK.out j y hj
        clear hst hx hy
        go_wp2
        exact ⟨⟨k + 1, by omega, by go_num, HST.out, HY2.out, HR2.out, HBK.out.setCell (by show w.heap.size ≤ w.heap.size + 2; omega) _, by simpa using hgs⟩, by simp [intOf]; omega⟩
      · obtain ⟨j, rfl⟩ : ∃ j, k = j + 16 := ⟨k - 16, by omega⟩
        have hzs := HZK.out
        rw [rowR_high L (by omega)] at hzs
        have HZS := Lib.hid hzs
        have hget : ∀ i, i < j + 16 → ∀ W, Ext wr.drew W → W.cell? ⟨w.heap.size + 2, i, none⟩ = some (.int .u32 (at_ (sched L j) i)) := fun i hi W hW => by
          have h1 := (show RowAt wr.drew (w.heap.size + 2) 78 .u32 (rowS L (j + 16)) from HZS.out).ext hW
          exact h1.cell (by rw [rowS_get HL.out (by omega)]; rfl)
        have G3 := Lib.hid (hget (j + 13) (by omega))
        have G8 := Lib.hid (hget (j + 8) (by omega))
        have G14 := Lib.hid (hget (j + 2) (by omega))
        have G16 := Lib.hid (hget j (by omega))
        have hnx : bits .xor .u32 (oddI (at_ (sched L j) (j + 13)) (at_ (sched L j) (j + 8)) (at_ (sched L j) (j + 2))) (at_ (sched L j) j) = bits .xor .u32 (oddI (at_ (sched L j) ((sched L j).length - 3)) (at_ (sched L j) ((sched L j).length - 8)) (at_ (sched L j) ((sched L j).length - 14))) (at_ (sched L j) ((sched L j).length - 16)) := by
          rw [sched_length, HL.out]
          rw [show 16 + j - 3 = j + 13 by omega, show 16 + j - 8 = j + 8 by omega, show 16 + j - 14 = j + 2 by omega, show 16 + j - 16 = j by omega]
        have hw := sched_w32 HLW.out j
        have b3 := at_bd hw (j + 13)
        have b8 := at_bd hw (j + 8)
        have b14 := at_bd hw (j + 2)
        have b16 := at_bd hw j
        have hox := odd_xor b3 b8 b14
        have HNX : Hid (turnI (bits .xor .u32 (bits .xor .u32 (bits .xor .u32 (at_ (sched L j) (j + 13)) (at_ (sched L j) (j + 8))) (at_ (sched L j) (j + 2))) (at_ (sched L j) j)) 1 = nextW (sched L j)) := by show _ = _; rw [hox, hnx]; rfl
        have HBX := Lib.hid (bits_bd_xor (bits_bd_xor (bits_bd_xor b3 b8) b14) b16)
        clear hget hnx hzs hw b3 b8 b14 b16 hox
        generalize at_ (sched L j) (j + 13) = x3 at *
        generalize at_ (sched L j) (j + 8) = x8 at *
        generalize at_ (sched L j) (j + 2) = x14 at *
        generalize at_ (sched L j) j = x16 at *
        go_wp2_with fail
        refine wp_region_typed_tail 22 rfl (by kernel_rfl) (by kernel_rfl) (by kernel_rfl) ?_
        refine tw_move (.inl (.int .i64 ((j + 16 : Nat) : Int))) (stable_is _) (.inl rfl) rfl (wd_none rfl) ?_
        refine tw_move (.inl (.int .i64 ((j + 16 : Nat) : Int))) (stable_is _) (.inl rfl) rfl (wd_none rfl) ?_
        refine tw_sub (i := j + 16) (j := j + 13) rfl rfl (by omega) (by omega) (by omega) (wd_none rfl) ?_
        refine tw_idx80 (g := w.heap.size + 2) (j := j + 13) rfl rfl rfl (by omega) (wd_none rfl) ?_
        refine tw_ld (x := x3) rfl rfl G3.out (wd_none rfl) ?_
        refine tw_move (.inl (.int .i64 ((j + 16 : Nat) : Int))) (stable_is _) (.inl rfl) rfl (wd_none rfl) ?_
        refine tw_sub (i := j + 16) (j := j + 8) rfl rfl (by omega) (by omega) (by omega) (wd_none rfl) ?_
        refine tw_idx80 (g := w.heap.size + 2) (j := j + 8) rfl rfl rfl (by omega) (wd_none rfl) ?_
        refine tw_ld (x := x8) rfl rfl G8.out (wd_none rfl) ?_
        refine tw_two (s := 28) (t := 32) (.int .u32 (bits .xor .u32 x3 x8)) (by decide) (by decide) rfl rfl (wd_none rfl) (fun ρ W h1 h2 h3 => by simp only [execOp, h1, h2]; go_simp) ?_
        refine tw_move (.inl (.int .i64 ((j + 16 : Nat) : Int))) (stable_is _) (.inl rfl) rfl (wd_none rfl) ?_
        refine tw_sub (i := j + 16) (j := j + 2) rfl rfl (by omega) (by omega) (by omega) (wd_none rfl) ?_
        refine tw_idx80 (g := w.heap.size + 2) (j := j + 2) rfl rfl rfl (by omega) (wd_none rfl) ?_
        refine tw_ld (x := x14) rfl rfl G14.out (wd_none rfl) ?_
        refine tw_two (s := 33) (t := 37) (.int .u32 (bits .xor .u32 (bits .xor .u32 x3 x8) x14)) (by decide) (by decide) rfl rfl (wd_none rfl) (fun ρ W h1 h2 h3 => by simp only [execOp, h1, h2]; go_simp) ?_
        refine tw_move (.inl (.int .i64 ((j + 16 : Nat) : Int))) (stable_is _) (.inl rfl) rfl (wd_none rfl) ?_
        refine tw_sub (i := j + 16) (j := j) rfl rfl (by omega) (by omega) (by omega) (wd_none rfl) ?_
        refine tw_idx80 (g := w.heap.size + 2) (j := j) rfl rfl rfl (by omega) (wd_none rfl) ?_
        refine tw_ld (x := x16) rfl rfl G16.out (wd_none rfl) ?_
        refine tw_two (s := 38) (t := 42) (.int .u32 (bits .xor .u32 (bits .xor .u32 (bits .xor .u32 x3 x8) x14) x16)) (by decide) (by decide) rfl rfl (wd_none rfl) (fun ρ W h1 h2 h3 => by simp only [execOp, h1, h2]; go_simp) ?_
        refine tw_fn0 #[.int .u32 (bits .xor .u32 (bits .xor .u32 (bits .xor .u32 x3 x8) x14) x16), .int .i64 1] (.int .u32 (turnI (bits .xor .u32 (bits .xor .u32 (bits .xor .u32 x3 x8) x14) x16) 1)) rfl (fun W => by go_simp) rfl (wd_none rfl) (fun W _ => refturn_eq _ 1 HBX.out (by omega) W) ?_
        refine tw_idx80 (g := w.heap.size + 2) (j := j + 16) rfl rfl rfl (by omega) (wd_none rfl) ?_
        dsimp only [wpT, List.reverse, List.reverseAux, FinT, SlT, List.take, List.drop]
        intro W2 hW2 _
        simp only [Act.put, List.setIfInBounds_toArray, List.set_cons_zero, List.set_cons_succ]
        rw [HNX.out]
        have hz3 : RowAt W2 (w.heap.size + 2) 78 .u32 (rowS L (j + 16)) := (show RowAt wr.drew (w.heap.size + 2) 78 .u32 (rowS L (j + 16)) from HZS.out).ext hW2
        have hy3 : RowAt W2 (w.heap.size + 1) 78 .u32 (List.replicate 80 0) := (show RowAt wr.drew (w.heap.size + 1) 78 .u32 (List.replicate 80 0) from HYK.out).ext hW2
        have hb3 := HBK.out.drew.trans (Below.mono hW2 hsk)
        have hr3 : ∀ (i : Nat) y, L[i]? = some y → W2.cell? ⟨g, i, none⟩ = some (.int .u32 y) := fun i y hi => (hW2.cell (p := ⟨g, i, none⟩) hgs).trans (HRK.out i y hi)
        have hg3 : g < W2.heap.size := Nat.lt_of_lt_of_le hgs hW2.size
        have hfr : W2.frozen? ⟨w.heap.size + 2, j + 16, none⟩ = false := hz3.frozen _
        have hcl : W2.cell? ⟨w.heap.size + 2, j + 16, none⟩ = some (.int .u32 0) := hz3.cell (by
          unfold rowS
          rw [List.getElem?_append_right (by rw [sched_length, HL.out]; omega), sched_length, HL.out, List.getElem?_replicate, if_pos (by omega)])
        have hst := hz3.set (j + 16) (nextW (sched L j))
        rw [show (rowS L (j + 16)).set (j + 16) (nextW (sched L j)) = rowR L (j + 16 + 1) from (rowS_set HL.out (k := j + 16) (by omega) (by omega)).trans (rowR_high L (by omega)).symm] at hst
        have HST := Lib.hid hst
        have HB3 := Lib.hid hb3
        have HY2 : Hid (RowAt (W2.setCell ⟨w.heap.size + 2, j + 16, none⟩ (.int .u32 (nextW (sched L j)))) (w.heap.size + 1) 78 .u32 (List.replicate 80 0)) := (heap_setCell_other W2 _ (w.heap.size + 1) _ (by show w.heap.size + 1 ≠ w.heap.size + 2; omega)).trans hy3
        have HR2 : Hid (∀ (i : Nat) y, L[i]? = some y → (W2.setCell ⟨w.heap.size + 2, j + 16, none⟩ (.int .u32 (nextW (sched L j)))).cell? ⟨g, i, none⟩ = some (.int .u32 y)) := fun i y hi => by
          rw [World.cell?_setCell_other W2 _ ⟨g, i, none⟩ _ (fun e => by injection e with e; omega)]
          exact hr3 i y hi
        clear hst hb3 hz3 hy3 hr3 hW2
        go_wp2
        exact ⟨⟨j + 16 + 1, by omega, by congr 1, HST.out, HY2.out, HR2.out, HB3.out.setCell (by show w.heap.size ≤ w.heap.size + 2; omega) _, by simpa using hg3⟩, by simp [intOf]; omega⟩
    · have hke : k = 80 := by omega
      subst hke
      have hz80 := HZK.out
      rw [rowR_high L (by omega), rowS_end] at hz80
      have hlen : (ints .u32 (sched L 64)).toArray.size = 80 := by simp [ints, sched_length, HL.out]
      have hsz : (Try.prog.info? 78).map (·.size) = some (ints .u32 (sched L 64)).toArray.size := by rw [hlen]; kernel_rfl
      have hone : (ints .u32 (sched L 64)).toArray.all (·.oneCell') = true := by simp [ints, Value.oneCell']
      have hold : (ints .u32 (List.replicate 80 0)).toArray.size = (ints .u32 (sched L 64)).toArray.size := by rw [hlen]; simp [ints]
      have hrow := setRow_heap wr (w.heap.size + 1) _ (ints .u32 (sched L 64)).toArray _ _ HYK.out
      have HZ80 := Lib.hid hz80
      have HSZ := Lib.hid hsz
      have HONE := Lib.hid hone
      have HROW := Lib.hid hrow
      have HOLD := Lib.hid hold
      clear hz80 hlen hsz hone hrow hold
      go_wp2_with (first
        | (refine wpList_load_row rfl 78 (.tmp 3) rfl (w.heap.size + 2) rfl _ _ (0, 0) _ HZ80.out Try.underlying78 rfl HSZ.out ?_)
        | (refine wpList_store_row rfl 78 (.tmp 2) (.tmp 46) rfl (w.heap.size + 1) (ints .u32 (sched L 64)).toArray rfl rfl _ _ HYK.out HSZ.out HOLD.out HONE.out ?_))
      exact bodyPost_ret (v := .agg (ints .u32 (sched L 64)).toArray)
        (results_cell_row (fn := Try.f54) (p := 2) (ty := 78) rfl _ _ (w.heap.size + 1) _ _ _ _ rfl HROW.out Try.underlying78 rfl HSZ.out) rfl
        ⟨_, rfl, by rw [HLL.out]; exact arrOf_mk _ _, below_setRow HBK.out (by omega) _⟩
end Go.Proofs.Ytonblhannoinfaa
