/- Layer 3 (sha): a block's state, the document's. -/
import Derived.Test.YtonblhannoinfaaShaD
namespace Go.Proofs.Ytonblhannoinfaa
open Go.RowKit
theorem run_index5 (cs : Array Value) (l : List Int) (k : Nat) (hcs : ArrOf .u32 l cs) (hl : l.length = 5) (hk : k < 5) (W : World) : (Instr.index 23 (.agg cs) (.int .i64 (k : Int))).run Try.prog W = .ok (.int .u32 (at_ l k)) W := by
  have h1 : (0 : Int) ≤ (k : Int) ∧ (k : Int) < 5 := by omega
  have hx : cs[k]? = some (.int .u32 (at_ l k)) := hcs.get (at_get (by omega))
  simp [Instr.index, asIntOf, run_underlying Try.underlying23, h1, Try.sizeOf22, Try.isAgg22, hx, Go.part, go_sem]
  intro h
  omega
set_option maxHeartbeats 1000000 in
set_option maxRecDepth 10000 in
theorem refblock_any (h b : List Int) (hs cs : Array Value) (hhs : ArrOf .u32 h hs) (hh : W5 h) (hcs : ArrOf .u8 b cs) (hb : Bytes8 b) (hl : b.length = 64) (w : World) :
    Calls Try.prog 19 #[.agg hs, .agg cs] w fun e w' => e = .returned (.agg (ints .u32 (blockL h b)).toArray) ∧ Below w.heap.size w w' := by
  obtain rfl : hs = (ints .u32 h).toArray := hhs.eq
  clear hhs
  have hsz5 : (ints .u32 h).toArray.size = 5 := by simp [ints, hh.1]
  have hi5 : (Try.prog.info? 23).map (·.size) = some (ints .u32 h).toArray.size := by rw [hsz5]; kernel_rfl
  have HI5 := Lib.hid hi5
  have H5S : Hid (zero5.size = (ints .u32 h).toArray.size) := by show _ = _; rw [hsz5]; rfl
  have HI64 : Hid ((Try.prog.info? 24).map (·.size) = some cs.size) := by show _ = _; rw [hcs.size, hl]; kernel_rfl
  have hw0 : (((w.alloc (.cells (ints .u32 h).toArray 23)).alloc (.cells cs 24)).alloc (.cells zero5 23)).heap[w.heap.size]? = some (.cells (ints .u32 h).toArray 23 (0, 0)) := (heap_alloc_old _ _ (by simp; omega)).trans (heap_alloc2_old w _ _)
  have hw1 : (((w.alloc (.cells (ints .u32 h).toArray 23)).alloc (.cells cs 24)).alloc (.cells zero5 23)).heap[w.heap.size + 1]? = some (.cells cs 24 (0, 0)) := (heap_alloc_old _ _ (by simp)).trans (heap_alloc2_new w _ _)
  have hw2 : (((w.alloc (.cells (ints .u32 h).toArray 23)).alloc (.cells cs 24)).alloc (.cells zero5 23)).heap[w.heap.size + 2]? = some (.cells zero5 23 (0, 0)) := by
    have := heap_alloc_new ((w.alloc (.cells (ints .u32 h).toArray 23)).alloc (.cells cs 24)) (.cells zero5 23)
    simpa using this
  have HW0 := Lib.hid hw0
  have HW1 := Lib.hid hw1
  have HW2 := Lib.hid hw2
  have HBB := Lib.hid ((((Below.refl w.heap.size w).alloc (Nat.le_refl _) (.cells (ints .u32 h).toArray 23)).alloc (by simp) (.cells cs 24)).alloc (by simp; omega) (.cells zero5 23))
  clear hsz5 hi5 hw0 hw1 hw2
  go_enter Try.func19, Try.ntmps19
  go_wp2_with (refine wpList_load_row rfl 24 (.tmp 3) rfl (w.heap.size + 1) rfl _ cs (0, 0) _ HW1.out Try.underlying24 rfl HI64.out ?_)
  refine (refsched_any cs b hcs hb hl _).mono ?_
  rintro e w2 ⟨ws, rfl, hws, hb2⟩
  have K0 : Hid (RowAt w2 w.heap.size 23 .u32 h) := (hb2.block w.heap.size (by simp; omega)).trans HW0.out
  have K2 := Lib.hid ((hb2.block (w.heap.size + 2) (by simp)).trans HW2.out)
  have KB := Lib.hid (HBB.out.trans (hb2.mono (by simp; omega)))
  have hsk := hb2.size
  simp at hsk
  have hSl : (sched (wordsL b 16) 64).length = 80 := by rw [sched_length, wordsL_length]
  have hSw : W32L (sched (wordsL b 16) 64) := sched_w32 (wordsL_w32 hb 16) 64
  generalize hS : sched (wordsL b 16) 64 = S at *
  have HS := Box.mk hS
  have HSL := Lib.hid hSl
  have HSW := Lib.hid hSw
  have HH := Lib.hid hh
  obtain rfl : ws = (ints .u32 S).toArray := hws.eq
  have hs80 : (Try.prog.info? 78).map (·.size) = some (ints .u32 S).toArray.size := by rw [show (ints .u32 S).toArray.size = 80 by simp [ints, hSl]]; kernel_rfl
  have HS80 := Lib.hid hs80
  have HZ80 : Hid ((ints .u32 (List.replicate 80 0)).toArray.size = (ints .u32 S).toArray.size) := by show _ = _; simp [ints, hSl]
  have hz80 : (w2.alloc (.cells Try.zeroCells78 78)).heap[w2.heap.size]? = some (.cells (ints .u32 (List.replicate 80 0)).toArray 78 (0, 0)) := by rw [← zero80]; exact heap_alloc_new w2 _
  have HZA := Lib.hid hz80
  clear hb2 HW0 HW1 HW2 HBB hcs hb hl HI64 hS hSl hSw hws hh hs80 hz80
  go_upto_region 2 with (refine wpList_store_row rfl 78 (.tmp 5) (.tmp 10) rfl w2.heap.size (ints .u32 S).toArray rfl rfl _ _ HZA.out HS80.out HZ80.out (ints_all_one _ _) ?_)
  have hx3 : Below w2.heap.size w2 ((w2.alloc (.cells Try.zeroCells78 78)).setRow w2.heap.size (ints .u32 S).toArray) := below_setRow ((Below.refl _ w2).alloc (Nat.le_refl _) _) (Nat.le_refl _) _
  have h53 : RowAt ((w2.alloc (.cells Try.zeroCells78 78)).setRow w2.heap.size (ints .u32 S).toArray) w2.heap.size 78 .u32 S := setRow_heap _ w2.heap.size _ _ _ _ HZA.out
  generalize (w2.alloc (.cells Try.zeroCells78 78)).setRow w2.heap.size (ints .u32 S).toArray = w3 at *
  obtain ⟨g5, hg5⟩ : ∃ g5, g5 = w2.heap.size := ⟨_, rfl⟩
  rw [← hg5] at h53
  have hlt5 := h53.lt
  have L0 : Hid (RowAt w3 w.heap.size 23 .u32 h) := (hx3.block w.heap.size (by omega)).trans K0.out
  have L2 := Lib.hid ((hx3.block (w.heap.size + 2) (by omega)).trans K2.out)
  have LB := Lib.hid (KB.out.trans (hx3.mono (by omega)))
  have L5 := Lib.hid h53
  have hs3 := hx3.size
  have hgs : w.heap.size + 3 ≤ g5 := by omega
  have HG5 := Lib.hid hg5
  have H5A : Hid ((w3.alloc (.cells zero5 23)).heap[w3.heap.size]? = some (.cells zero5 23 (0, 0))) := heap_alloc_new w3 _
  rw [← hg5]
  clear h53 hx3 hg5 HZA HS80 HZ80 K0 K2 KB
  go_upto_region 3 with (first
    | (refine wpList_load_row rfl 23 (.tmp 2) rfl w.heap.size rfl _ _ (0, 0) _ L0.out Try.underlying23 rfl HI5.out ?_)
    | (refine wpList_store_row rfl 23 (.tmp 6) (.tmp 11) rfl w3.heap.size (ints .u32 h).toArray rfl rfl _ _ H5A.out HI5.out H5S.out (ints_all_one _ _) ?_))
  have hx4 : Below w3.heap.size w3 ((w3.alloc (.cells #[.int .u32 0, .int .u32 0, .int .u32 0, .int .u32 0, .int .u32 0] 23)).setRow w3.heap.size (ints .u32 h).toArray) := below_setRow ((Below.refl _ w3).alloc (Nat.le_refl _) _) (Nat.le_refl _) _
  have h64 : RowAt ((w3.alloc (.cells #[.int .u32 0, .int .u32 0, .int .u32 0, .int .u32 0, .int .u32 0] 23)).setRow w3.heap.size (ints .u32 h).toArray) w3.heap.size 23 .u32 h := setRow_heap _ w3.heap.size _ _ _ _ H5A.out
  generalize (w3.alloc (.cells #[.int .u32 0, .int .u32 0, .int .u32 0, .int .u32 0, .int .u32 0] 23)).setRow w3.heap.size (ints .u32 h).toArray = w4 at *
  obtain ⟨g6, hg6⟩ : ∃ g6, g6 = w3.heap.size := ⟨_, rfl⟩
  rw [← hg6] at h64
  have M0 : Hid (RowAt w4 w.heap.size 23 .u32 h) := (hx4.block w.heap.size (by omega)).trans L0.out
  have M2 := Lib.hid ((hx4.block (w.heap.size + 2) (by omega)).trans L2.out)
  have M5 : Hid (RowAt w4 g5 78 .u32 S) := (hx4.block g5 hlt5).trans L5.out
  have MB := Lib.hid (LB.out.trans (hx4.mono (by omega)))
  have M6 := Lib.hid h64
  have hne : g5 ≠ g6 := by omega
  have hg6b : w.heap.size + 3 ≤ g6 := by omega
  rw [← hg6]
  clear h64 hx4 hg6 H5A L0 L2 L5 LB hlt5 hs3 hsk HG5
  go_wp2
  go_loopw [7] (fun i wr => ∃ k : Nat, k ≤ 80 ∧ i = .int .i64 k ∧ RowAt wr g6 23 .u32 (roundsI S h k) ∧ RowAt wr g5 78 .u32 S ∧ RowAt wr w.heap.size 23 .u32 h ∧ wr.heap[w.heap.size + 2]? = some (.cells zero5 23 (0, 0)) ∧ Below w.heap.size w wr) (fun i _ => 80 - (intOf i).toNat)
  case atStart => exact ⟨0, by omega, rfl, M6.out, M5.out, M0.out, M2.out, MB.out⟩
  case round =>
    obtain ⟨k, hk, rfl, h6, h5, h0, h2, hbk⟩ := hrel
    have HB := Lib.hid hbk
    have H0 := Lib.hid h0
    have H2 := Lib.hid h2
    have H6 := Lib.hid h6
    have H5 := Lib.hid h5
    have hsk := hbk.size
    clear hbk h0 h2 h6 h5 M6 M5 M0 M2 MB
    by_cases h80 : k < 80
    · have G5 : Hid (∀ W, Ext wr.drew W → W.cell? ⟨g5, k, none⟩ = some (.int .u32 (at_ S k))) := fun W hW =>
        ((show RowAt wr.drew g5 78 .u32 S from H5.out).ext hW).cell (at_get (by rw [HSL.out]; exact h80))
      have hbx := at_bd HSW.out k
      have HBX := Lib.hid hbx
      generalize hx : at_ S k = x at *
      have HXK := Box.mk hx
      obtain ⟨x0, x1, x2, x3, x4, hX, b0, b1, b2, b3, b4⟩ := (roundsI_w5 HH.out S k).form
      have HX := Box.mk hX
      have H6' := H6.out
      rw [hX] at H6'
      have G6 : Hid (∀ W, Ext wr.drew W → W.heap[g6]? = some (.cells #[.int .u32 x0, .int .u32 x1, .int .u32 x2, .int .u32 x3, .int .u32 x4] 23 (0, 0))) := fun W hW =>
        (show RowAt wr.drew g6 23 .u32 [x0, x1, x2, x3, x4] from H6').ext hW
      have hnext : roundsI S h (k + 1) = [sumI [turnI x0 5, putI k x1 x2 x3, x4, conI k, x], x0, turnI x1 30, x2, x3] := by
        show roundI k (at_ S k) (roundsI S h k) = _
        rw [hX, hx]
        rfl
      have HR := Lib.hid (refround_any k x0 x1 x2 x3 x4 x)
      have HB0 := Lib.hid b0
      have HB1 := Lib.hid b1
      have HB2 := Lib.hid b2
      have HB3 := Lib.hid b3
      have HB4 := Lib.hid b4
      generalize hD : sumI [turnI x0 5, putI k x1 x2 x3, x4, conI k, x] = d at *
      have HD := Box.mk hD
      have HNX := Box.mk hnext
      have H6B := Lib.hid H6'
      clear hx hX hnext hD H6' b0 b1 b2 b3 b4 hbx
      go_upto_region 6 with (fail)
      refine wp_region_typed_tail 6 rfl (by kernel_rfl) (by kernel_rfl) (by kernel_rfl) ?_
      refine tw_ldrow (g := g6) (cs := #[.int .u32 x0, .int .u32 x1, .int .u32 x2, .int .u32 x3, .int .u32 x4]) (t := 23) (fr := (0, 0)) rfl rfl G6.out Try.underlying23 (by kernel_rfl) (wd_none rfl) ?_
      refine tw_move (.inl (.int .i64 (k : Int))) (stable_is _) (.inl rfl) rfl (wd_none rfl) ?_
      refine tw_move (.inl (.int .i64 (k : Int))) (stable_is _) (.inl rfl) rfl (wd_none rfl) ?_
      refine tw_idx80 (g := g5) (j := k) rfl rfl rfl h80 (wd_none rfl) ?_
      refine tw_ld (x := x) rfl rfl G5.out (wd_none rfl) ?_
      refine tw_fnB #[.agg #[.int .u32 x0, .int .u32 x1, .int .u32 x2, .int .u32 x3, .int .u32 x4], .int .i64 (k : Int), .int .u32 x] (.agg #[.int .u32 d, .int .u32 x0, .int .u32 (turnI x1 30), .int .u32 x2, .int .u32 x3]) rfl (fun W => by go_simp) rfl (wd_none rfl)
        (fun W _ => HR.out W HB0.out HB1.out HB2.out HB3.out HB4.out HBX.out) ?_
      dsimp only [wpT, List.reverse, List.reverseAux, FinT, SlT, List.take, List.drop]
      intro W2 hW2 _
      simp only [Act.put, List.setIfInBounds_toArray, List.set_cons_zero, List.set_cons_succ]
      have h62 : RowAt W2 g6 23 .u32 [x0, x1, x2, x3, x4] := (show RowAt wr.drew g6 23 .u32 [x0, x1, x2, x3, x4] from H6B.out).ext hW2
      have HE2 : Hid (Ext wr W2) := (Below.refl wr.heap.size wr).drew.trans hW2
      have h63 : RowAt (W2.setRow g6 #[.int .u32 d, .int .u32 x0, .int .u32 (turnI x1 30), .int .u32 x2, .int .u32 x3]) g6 23 .u32 [d, x0, turnI x1 30, x2, x3] := setRow_heap W2 g6 _ _ _ _ h62
      refine wpList_store_row rfl 23 _ _ rfl g6 #[.int .u32 d, .int .u32 x0, .int .u32 (turnI x1 30), .int .u32 x2, .int .u32 x3] rfl rfl _ _ h62 (by kernel_rfl) rfl (by simp [Value.oneCell']) ?_
      have HF5 : Hid (RowAt (W2.setRow g6 #[.int .u32 d, .int .u32 x0, .int .u32 (turnI x1 30), .int .u32 x2, .int .u32 x3]) g5 78 .u32 S) := (setRow_other W2 g6 g5 _ hne).trans ((HE2.out.block g5 H5.out.lt).trans H5.out)
      have HF0 : Hid (RowAt (W2.setRow g6 #[.int .u32 d, .int .u32 x0, .int .u32 (turnI x1 30), .int .u32 x2, .int .u32 x3]) w.heap.size 23 .u32 h) := (setRow_other W2 g6 w.heap.size _ (by omega)).trans ((HE2.out.block w.heap.size H0.out.lt).trans H0.out)
      have HF2 := Lib.hid ((setRow_other W2 g6 (w.heap.size + 2) #[.int .u32 d, .int .u32 x0, .int .u32 (turnI x1 30), .int .u32 x2, .int .u32 x3] (by omega)).trans ((HE2.out.block (w.heap.size + 2) (RowLt H2.out)).trans H2.out))
      have HFB := Lib.hid (below_setRow (HB.out.trans (Below.mono HE2.out hsk)) (show w.heap.size ≤ g6 by omega) #[.int .u32 d, .int .u32 x0, .int .u32 (turnI x1 30), .int .u32 x2, .int .u32 x3])
      have H63 := Lib.hid h63
      clear h62 h63 hW2
      go_wp2
      go_roundw
      case rel => exact ⟨k + 1, by omega, by go_num, by rw [HNX.out]; exact H63.out, HF5.out, HF0.out, HF2.out, HFB.out⟩
      case measure => simp [intOf]; omega
    · have hke : k = 80 := by omega
      subst hke
      generalize hX : roundsI S h 80 = X at *
      have HX := Box.mk hX
      have HXW : Hid (W5 X) := by rw [← hX]; exact roundsI_w5 HH.out S 80
      clear hX
      have hX5 : X.length = 5 := HXW.out.1
      have hh5 : h.length = 5 := HH.out.1
      have HX5 := Lib.hid hX5
      have HH5 := Lib.hid hh5
      clear hX5 hh5
      go_wp2
      go_loopw [8] (fun i wr => ∃ k : Nat, k ≤ 5 ∧ i = .int .i64 k ∧ RowAt wr g6 23 .u32 (mixL X h k) ∧ RowAt wr w.heap.size 23 .u32 h ∧ wr.heap[w.heap.size + 2]? = some (.cells zero5 23 (0, 0)) ∧ Below w.heap.size w wr) (fun i _ => 5 - (intOf i).toNat)
      case atStart => exact ⟨0, by omega, rfl, by rw [mixL_zero]; exact H6.out, H0.out, H2.out, HB.out⟩
      case round =>
        obtain ⟨k, hk5, rfl, h6, h0, h2, hbk⟩ := hrel
        clear HB H0 H2 H6 H5 hsk hk h80
        have HB := Lib.hid hbk
        have H0 := Lib.hid h0
        have H2 := Lib.hid h2
        have H6 := Lib.hid h6
        have hsk := hbk.size
        clear hbk h0 h2 h6
        by_cases hlt : k < 5
        · have G6 : Hid (∀ W, Ext wr.drew W → W.cell? ⟨g6, k, none⟩ = some (.int .u32 (at_ X k))) := fun W hW =>
            ((show RowAt wr.drew g6 23 .u32 (mixL X h k) from H6.out).ext hW).cell (mixL_get HX5.out HH5.out hlt)
          have G0 : Hid (∀ W, Ext wr.drew W → W.cell? ⟨w.heap.size, k, none⟩ = some (.int .u32 (at_ h k))) := fun W hW =>
            ((show RowAt wr.drew w.heap.size 23 .u32 h from H0.out).ext hW).cell (at_get (by rw [HH5.out]; exact hlt))
          have hset := mixL_set HX5.out HH5.out hlt
          have hbx := at_bd HXW.out.2 k
          have hby := at_bd HH.out.2 k
          have hsum : sumI [at_ X k, at_ h k] = addI (at_ X k) (at_ h k) := by
            unfold sumI foldI addI
            simp only [List.foldl_cons, List.foldl_nil]
            omega
          have HSET := Lib.hid hset
          have HSUM := Lib.hid hsum
          have HBX := Lib.hid hbx
          have HBY := Lib.hid hby
          clear hset hbx hby hsum
          generalize at_ X k = x at *
          generalize at_ h k = y at *
          go_wp2_with fail
          refine wp_region_typed_tail 10 rfl (by kernel_rfl) (by kernel_rfl) (by kernel_rfl) ?_
          refine tw_move (.inl (.int .i64 (k : Int))) (stable_is _) (.inl rfl) rfl (wd_none rfl) ?_
          refine tw_move (.inl (.int .i64 (k : Int))) (stable_is _) (.inl rfl) rfl (wd_none rfl) ?_
          refine tw_idx5 (g := g6) (j := k) rfl rfl rfl hlt (wd_none rfl) ?_
          refine tw_ld (x := x) rfl rfl G6.out (wd_none rfl) ?_
          refine tw_move (.inl (.int .i64 (k : Int))) (stable_is _) (.inl rfl) rfl (wd_none rfl) ?_
          refine tw_idx5 (g := w.heap.size) (j := k) rfl rfl rfl hlt (wd_none rfl) ?_
          refine tw_ld (x := y) rfl rfl G0.out (wd_none rfl) ?_
          refine tw_new2 x y rfl rfl rfl (wd_none rfl) ?_
          refine tw_fnS [x, y] (.int .u32 (addI x y)) rfl (fun args W => by go_simp) rfl (wd_none rfl)
            (fun A c' W hR => by
              have := refsum_any A 2 c' _ [x, y] (by
                intro z hz
                simp at hz
                rcases hz with rfl | rfl
                · exact HBX.out
                · exact HBY.out) W (by omega) hR
              rwa [HSUM.out] at this) ?_
          refine tw_idx5 (g := g6) (j := k) rfl rfl rfl hlt (wd_none rfl) ?_
          dsimp only [wpT, List.reverse, List.reverseAux, FinT, SlT, List.take, List.drop]
          intro v1 W2 hW2 _
          simp only [Act.put, List.setIfInBounds_toArray, List.set_cons_zero, List.set_cons_succ]
          have h6 : RowAt W2 g6 23 .u32 (mixL X h k) := (show RowAt wr.drew g6 23 .u32 (mixL X h k) from H6.out).ext hW2
          have h0 : RowAt W2 w.heap.size 23 .u32 h := (show RowAt wr.drew w.heap.size 23 .u32 h from H0.out).ext hW2
          have h2 := (hW2.block (w.heap.size + 2) (RowLt H2.out)).trans H2.out
          have hfr : W2.frozen? ⟨g6, k, none⟩ = false := h6.frozen _
          have hcl : W2.cell? ⟨g6, k, none⟩ = some (.int .u32 x) := G6.out W2 hW2
          have h6s := h6.set k (addI x y)
          rw [HSET.out] at h6s
          have HF6 := Lib.hid h6s
          have HF0 : Hid (RowAt (W2.setCell ⟨g6, k, none⟩ (.int .u32 (addI x y))) w.heap.size 23 .u32 h) := (heap_setCell_other W2 _ w.heap.size _ (by show w.heap.size ≠ g6; omega)).trans h0
          have HF2 := Lib.hid ((heap_setCell_other W2 ⟨g6, k, none⟩ (w.heap.size + 2) (.int .u32 (addI x y)) (by show w.heap.size + 2 ≠ g6; omega)).trans h2)
          have HFB := Lib.hid ((HB.out.drew.trans (Below.mono hW2 hsk)).setCell (p := ⟨g6, k, none⟩) (show w.heap.size ≤ g6 by omega) (.int .u32 (addI x y)))
          clear h6 h0 h2 h6s hW2 G6 G0
          go_wp2
          exact ⟨⟨k + 1, by omega, by go_num, HF6.out, HF0.out, HF2.out, HFB.out⟩, by simp [intOf]; omega⟩
        · have hke : k = 5 := by omega
          subst hke
          have hz := H6.out
          rw [mixL_end HX5.out HH5.out] at hz
          have hzl : (List.zipWith addI X h).length = 5 := by simp [HX5.out, HH5.out]
          have hblk : blockL h b = List.zipWith addI X h := by unfold blockL; rw [HS.out, HX.out]
          have HBLK := Box.mk hblk
          have hsz : (Try.prog.info? 23).map (·.size) = some (ints .u32 (List.zipWith addI X h)).toArray.size := by
            rw [show (ints .u32 (List.zipWith addI X h)).toArray.size = 5 by simpa [ints] using hzl]; kernel_rfl
          have hold : zero5.size = (ints .u32 (List.zipWith addI X h)).toArray.size := by simpa [ints, zero5] using hzl.symm
          have hrow := setRow_heap wr (w.heap.size + 2) _ (ints .u32 (List.zipWith addI X h)).toArray _ _ H2.out
          have HZ := Lib.hid hz
          have HSZ := Lib.hid hsz
          have HOL := Lib.hid hold
          have HRW := Lib.hid hrow
          clear hz hzl hblk hsz hold hrow HX HS
          generalize List.zipWith addI X h = Z at *
          go_wp2_with (first
            | (refine wpList_load_row rfl 23 (.tmp 6) rfl g6 rfl _ _ (0, 0) _ HZ.out Try.underlying23 rfl HSZ.out ?_)
            | (refine wpList_store_row rfl 23 (.tmp 4) (.tmp 36) rfl (w.heap.size + 2) (ints .u32 Z).toArray rfl rfl _ _ H2.out HSZ.out HOL.out (ints_all_one _ _) ?_))
          exact bodyPost_ret (v := .agg (ints .u32 Z).toArray)
            (results_cell_row (fn := Try.f19) (p := 4) (ty := 23) rfl _ _ (w.heap.size + 2) _ _ _ _ rfl HRW.out Try.underlying23 rfl HSZ.out) rfl
            ⟨by rw [HBLK.out], below_setRow HB.out (by omega) _⟩
end Go.Proofs.Ytonblhannoinfaa
