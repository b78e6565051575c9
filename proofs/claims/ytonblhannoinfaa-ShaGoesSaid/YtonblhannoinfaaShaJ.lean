/- Layer 3 (sha): the statements' own block and run over blocks. -/
import Derived.Test.YtonblhannoinfaaShaAlive
namespace Go.Proofs.Ytonblhannoinfaa
open Go.RowKit
set_option maxHeartbeats 1000000 in
set_option maxRecDepth 10000 in
theorem sblock_any (A : Option Addr) (n c B k : Nat) (L : List Int) (w : World) (hB : B ≤ w.heap.size) (hr : Rd w B 1 A n (ints .u8 L)) (hn : n ≤ 20000) (hk : k + 64 ≤ n) :
    Calls Try.prog 64 #[.slice A n c, .int .i64 (k : Int)] w fun e w' => e = .returned (.agg (ints .u8 ((L.drop k).take 64)).toArray) ∧ Below w.heap.size w w' := by
  have hlen : L.length = n := by have := hr.1; simpa [ints] using this
  obtain ⟨gA, off, rfl, hgB, hc0⟩ := hr.2 (by omega)
  have hcl0 : ∀ (j : Nat) x, L[j]? = some x → w.cell? ⟨gA, off + j, none⟩ = some (.int .u8 x) := fun j x hx => hc0 j _ (by simp [ints, hx])
  have hgw : gA < w.heap.size := by omega
  have hbl : ((L.drop k).take 64).length = 64 := by rw [List.length_take, List.length_drop, hlen]; omega
  have hbg : ∀ j, j < 64 → ∃ x, ((L.drop k).take 64)[j]? = some x ∧ L[k + j]? = some x := fun j hj => by
    have h1 : j < ((L.drop k).take 64).length := by omega
    refine ⟨_, List.getElem?_eq_getElem h1, ?_⟩
    have h2 := List.getElem?_eq_getElem h1
    rw [← h2, List.getElem?_take, if_pos hj, List.getElem?_drop]
  have HBG := Lib.hid hbg
  have HBL := Lib.hid hbl
  generalize (L.drop k).take 64 = blk at *
  have hi64 : (Try.prog.info? 24).map (·.size) = some (ints .u8 blk).toArray.size := by rw [show (ints .u8 blk).toArray.size = 64 by simpa [ints] using HBL.out]; kernel_rfl
  have hol : (ints .u8 (List.replicate 64 0)).toArray.size = (ints .u8 blk).toArray.size := by rw [show (ints .u8 blk).toArray.size = 64 by simpa [ints] using HBL.out]; rfl
  have HI64 := Lib.hid hi64
  have HOL := Lib.hid hol
  have h4 : RowAt (w.alloc (.cells (ints .u8 (List.replicate 64 0)).toArray 24)) w.heap.size 24 .u8 (List.replicate 64 0) := heap_alloc_new w _
  have hb4 : Below w.heap.size w (w.alloc (.cells (ints .u8 (List.replicate 64 0)).toArray 24)) := (Below.refl _ w).alloc (Nat.le_refl _) _
  have H4 := Lib.hid h4
  have HB4 := Lib.hid hb4
  have HCL0 := Lib.hid hcl0
  clear hbg hbl hi64 hol h4 hb4 hc0 hcl0 hr
  go_enter Try.func64, Try.ntmps64
  go_upto_region 1 with (fail)
  rw [zero64]
  generalize w.alloc (.cells (ints .u8 (List.replicate 64 0)).toArray 24) = wa at *
  have hwa := H4.out.lt
  have hgl : gA < wa.heap.size := by omega
  have hx : Below wa.heap.size wa (wa.alloc (.cells (ints .u8 (List.replicate 64 0)).toArray 24)) := (Below.refl _ wa).alloc (Nat.le_refl _) _
  have h5 : RowAt (wa.alloc (.cells (ints .u8 (List.replicate 64 0)).toArray 24)) wa.heap.size 24 .u8 (outG blk 64 0) := by rw [outG_zero]; exact heap_alloc_new wa _
  have N4 := Lib.hid (H4.out.ext hx)
  have N5 := Lib.hid h5
  have NC : Hid (∀ (j : Nat) x, L[j]? = some x → (wa.alloc (.cells (ints .u8 (List.replicate 64 0)).toArray 24)).cell? ⟨gA, off + j, none⟩ = some (.int .u8 x)) := fun j x hj => (hx.cell (p := ⟨gA, off + j, none⟩) hgl).trans ((HB4.out.cell (p := ⟨gA, off + j, none⟩) hgw).trans (HCL0.out j x hj))
  have NB := Lib.hid (HB4.out.trans (hx.mono HB4.out.size))
  clear hx h5 H4 HB4 HCL0
  go_upto_region 2 with (fail)
  rw [zero64]
  generalize wa.alloc (.cells (ints .u8 (List.replicate 64 0)).toArray 24) = wb at *
  obtain ⟨g5, hg5⟩ : ∃ g5, g5 = wa.heap.size := ⟨_, rfl⟩
  rw [← hg5] at N5
  rw [← hg5]
  have hgx2 : w.heap.size < g5 := by omega
  have hgxA : gA ≠ g5 := by omega
  clear hg5 hgl hwa
  go_wp2
  go_loopw [6] (fun i wr => ∃ j : Nat, j ≤ 64 ∧ i = .int .i64 j ∧ (∀ (j : Nat) x, L[j]? = some x → wr.cell? ⟨gA, off + j, none⟩ = some (.int .u8 x)) ∧ RowAt wr g5 24 .u8 (outG blk 64 j) ∧
    RowAt wr w.heap.size 24 .u8 (List.replicate 64 0) ∧ Below w.heap.size w wr) (fun i _ => 64 - (intOf i).toNat)
  case atStart => exact ⟨0, by omega, rfl, NC.out, N5.out, N4.out, NB.out⟩
  case round =>
    obtain ⟨j, hj, rfl, hcl, h6, h2, hbk⟩ := hrel
    clear NC N5 N4 NB
    have HC := Lib.hid hcl
    have H6 := Lib.hid h6
    have H2 := Lib.hid h2
    have HB := Lib.hid hbk
    clear hcl h6 h2 hbk
    by_cases hj64 : j < 64
    · obtain ⟨x, hx1, hx2⟩ := HBG.out j hj64
      have hld := HC.out _ x hx2
      have hfr := H6.out.frozen j
      have hcl := H6.out.cell (outG_get blk 64 j HBL.out hj64)
      have hst := H6.out.set j x
      rw [outG_set blk 64 j x HBL.out hj64 hx1] at hst
      have HST := Lib.hid hst
      have F2 : Hid (RowAt (wr.setCell ⟨g5, j, none⟩ (.int .u8 x)) w.heap.size 24 .u8 (List.replicate 64 0)) := (heap_setCell_other wr _ w.heap.size _ (by show w.heap.size ≠ g5; omega)).trans H2.out
      have FC : Hid (∀ (i : Nat) y, L[i]? = some y → (wr.setCell ⟨g5, j, none⟩ (.int .u8 x)).cell? ⟨gA, off + i, none⟩ = some (.int .u8 y)) := fun i y hi => by
        rw [World.cell?_setCell_other wr _ ⟨gA, off + i, none⟩ _ (fun e => by injection e with e; exact hgxA e.symm)]
        exact HC.out i y hi
      have FB := Lib.hid (HB.out.setCell (p := ⟨g5, j, none⟩) (show w.heap.size ≤ g5 by omega) (.int .u8 x))
      have hi1 : (k : Int) + (j : Int) < (n : Int) := by omega
      clear hst hx1 hx2
      go_wp2
      exact ⟨⟨j + 1, by omega, by go_num, FC.out, HST.out, F2.out, FB.out⟩, by simp [intOf]; omega⟩
    · obtain rfl : j = 64 := by omega
      have h6 := H6.out
      rw [outG_end blk 64 HBL.out] at h6
      have H6F := Lib.hid h6
      have HRW : Hid (RowAt (wr.setRow w.heap.size (ints .u8 blk).toArray) w.heap.size 24 .u8 blk) := setRow_heap wr w.heap.size _ (ints .u8 blk).toArray _ _ H2.out
      clear h6 H6
      go_wp2_with (first
        | (refine wpList_load_row rfl 24 (.tmp 5) rfl g5 rfl _ _ (0, 0) _ H6F.out Try.underlying24 rfl HI64.out ?_)
        | (refine wpList_store_row rfl 24 (.tmp 4) (.tmp 27) rfl w.heap.size (ints .u8 blk).toArray rfl rfl _ _ H2.out HI64.out HOL.out (ints_all_one _ _) ?_))
      exact bodyPost_ret (v := .agg (ints .u8 blk).toArray)
        (results_cell_row (fn := Try.f64) (p := 4) (ty := 24) rfl _ _ w.heap.size _ _ _ _ rfl HRW.out Try.underlying24 rfl HI64.out) rfl
        ⟨rfl, below_setRow HB.out (Nat.le_refl _) _⟩
set_option maxHeartbeats 1000000 in
set_option maxRecDepth 10000 in
theorem from_any (A : Option Addr) (n c B : Nat) (L x : List Int) (w : World) (hB : B ≤ w.heap.size) (hr : Rd w B 1 A n (ints .u8 L)) (hL : Bytes8 L) (hxw : W5 x) (hn : n ≤ 20000) :
    Calls Try.prog 37 #[.agg (ints .u32 x).toArray, .slice A n c] w fun e w' => e = .returned (.agg (ints .u32 (runL x L (n / 64))).toArray) ∧ Below w.heap.size w w' := by
  have hlen : L.length = n := by have := hr.1; simpa [ints] using this
  have HLN := Lib.hid hlen
  have HL8 : Hid (Bytes8 L) := Lib.hid hL
  have h2 : RowAt ((w.alloc (.cells (ints .u32 x).toArray 23)).alloc (.cells zero5 23)) w.heap.size 23 .u32 (runL x L 0) := heap_alloc2_old w _ _
  have h4 : RowAt ((w.alloc (.cells (ints .u32 x).toArray 23)).alloc (.cells zero5 23)) (w.heap.size + 1) 23 .u32 [0, 0, 0, 0, 0] := heap_alloc2_new w _ _
  have hb0 : Below w.heap.size w ((w.alloc (.cells (ints .u32 x).toArray 23)).alloc (.cells zero5 23)) := ((Below.refl _ w).alloc (Nat.le_refl _) _).alloc (by simp) _
  have hr0 : Rd ((w.alloc (.cells (ints .u32 x).toArray 23)).alloc (.cells zero5 23)) w.heap.size 1 A n (ints .u8 L) := (hr.below hb0 hB).more hB
  have hix : (Try.prog.info? 23).map (·.size) = some (ints .u32 x).toArray.size := by rw [show (ints .u32 x).toArray.size = 5 by simpa [ints] using hxw.1]; kernel_rfl
  have HIX := Lib.hid hix
  have H2 := Lib.hid h2
  have H4 := Lib.hid h4
  have HB0 := Lib.hid hb0
  have HR0 := Lib.hid hr0
  clear hlen hL h2 h4 hb0 hr0 hr hix
  go_enter Try.func37, Try.ntmps37
  go_upto_region 1 with (fail)
  change Code.wp _ _ _ _ ((w.alloc (.cells (ints .u32 x).toArray 23)).alloc (.cells zero5 23))
  generalize ((w.alloc (.cells (ints .u32 x).toArray 23)).alloc (.cells zero5 23)) = wa at *
  obtain ⟨g2, hg2⟩ : ∃ g2, g2 = w.heap.size := ⟨_, rfl⟩
  obtain ⟨g4, hg4⟩ : ∃ g4, g4 = w.heap.size + 1 := ⟨_, rfl⟩
  rw [← hg4] at H4
  rw [← hg2] at H2
  rw [← hg4, ← hg2]
  have hne : g2 ≠ g4 := by omega
  have hle2 : w.heap.size ≤ g2 := by omega
  have hle4 : w.heap.size ≤ g4 := by omega
  clear hg2 hg4 HIX
  go_wp2
  go_loopw [5] (fun i wr => ∃ k : Nat, 64 * k ≤ n ∧ i = .int .i64 ((64 * k : Nat) : Int) ∧ Rd wr w.heap.size 1 A n (ints .u8 L) ∧ RowAt wr g2 23 .u32 (runL x L k) ∧
    RowAt wr g4 23 .u32 [0, 0, 0, 0, 0] ∧ Below w.heap.size w wr) (fun i _ => n - (intOf i).toNat)
  case atStart => exact ⟨0, by omega, rfl, HR0.out, H2.out, H4.out, HB0.out⟩
  case round =>
    obtain ⟨k, hk, rfl, hrd, h2, h4, hbk⟩ := hrel
    clear HR0 H2 H4 HB0
    have HR := Lib.hid hrd
    have H2 := Lib.hid h2
    have H4 := Lib.hid h4
    have HB := Lib.hid hbk
    have hsk := hbk.size
    clear hrd h2 h4 hbk
    by_cases hlt : 64 * k + 64 ≤ n
    · have hbl : ((L.drop (64 * k)).take 64).length = 64 := by rw [List.length_take, List.length_drop, HLN.out]; omega
      have hb8 : Bytes8 ((L.drop (64 * k)).take 64) := fun y hy => HL8.out y (List.mem_of_mem_drop (List.mem_of_mem_take hy))
      have hXW : W5 (runL x L k) := runL_w5 k _ _ hxw
      have hnext : runL x L (k + 1) = blockL (runL x L k) ((L.drop (64 * k)).take 64) := by unfold runL; exact runF_snoc k _ _
      have HBLK : Hid (∀ W, Calls Try.prog 18 #[.agg (ints .u32 (runL x L k)).toArray, .agg (ints .u8 ((L.drop (64 * k)).take 64)).toArray] W fun e w' => e = .returned (.agg (ints .u32 (runL x L (k + 1))).toArray) ∧ Below W.heap.size W w') := fun W => by
        rw [hnext]
        exact block_any _ _ _ _ (arrOf_mk _ _) hXW (arrOf_mk _ _) hb8 hbl W
      have HSB : Hid (∀ W, Ext wr.drew W → Calls Try.prog 64 #[.slice A n c, .int .i64 ((64 * k : Nat) : Int)] W fun e w' => e = .returned (.agg (ints .u8 ((L.drop (64 * k)).take 64)).toArray) ∧ Below W.heap.size W w') := fun W hW =>
        sblock_any A n c w.heap.size (64 * k) L W (Nat.le_trans hsk hW.size) (HR.out.below ((Below.refl wr.heap.size wr).drew.trans hW) hsk) hn hlt
      have HNW : Hid ((runL x L (k + 1)).length = 5) := (runL_w5 (k + 1) _ _ hxw).1
      have HXL : Hid ((runL x L k).length = 5) := hXW.1
      generalize hX' : runL x L (k + 1) = X' at *
      have HX' := Box.mk hX'
      generalize runL x L k = X at *
      generalize (L.drop (64 * k)).take 64 = blk at *
      have hi5 : (Try.prog.info? 23).map (·.size) = some (ints .u32 X).toArray.size := by rw [show (ints .u32 X).toArray.size = 5 by simpa [ints] using HXL.out]; kernel_rfl
      have hi5' : (Try.prog.info? 23).map (·.size) = some (ints .u32 X').toArray.size := by rw [show (ints .u32 X').toArray.size = 5 by simpa [ints] using HNW.out]; kernel_rfl
      have hol : (ints .u32 X).toArray.size = (ints .u32 X').toArray.size := by rw [show (ints .u32 X').toArray.size = 5 by simpa [ints] using HNW.out]; simpa [ints] using HXL.out
      have HI5 := Lib.hid hi5
      have HI5' := Lib.hid hi5'
      have HOL := Lib.hid hol
      have hlt' : ((64 * k : Nat) : Int) + 64 ≤ (n : Int) := by omega
      clear hbl hb8 hXW hnext hX' hi5 hi5' hol
      go_wp2_with fail
      refine wp_region_typed_tail 5 rfl (by kernel_rfl) (by kernel_rfl) (by kernel_rfl) ?_
      refine tw_ldrow (g := g2) (cs := (ints .u32 X).toArray) (t := 23) (fr := (0, 0)) rfl rfl (fun W hW => (show RowAt wr.drew g2 23 .u32 X from H2.out).ext hW) Try.underlying23 HI5.out (wd_none rfl) ?_
      refine tw_move (.inl (.slice A n c)) (stable_is _) (.inl rfl) rfl (wd_none rfl) ?_
      refine tw_move (.inl (.int .i64 ((64 * k : Nat) : Int))) (stable_is _) (.inl rfl) rfl (wd_none rfl) ?_
      refine tw_fnB #[.slice A n c, .int .i64 ((64 * k : Nat) : Int)] (.agg (ints .u8 blk).toArray) rfl (fun W => by go_simp) rfl (wd_none rfl) HSB.out ?_
      refine tw_fnB #[.agg (ints .u32 X).toArray, .agg (ints .u8 blk).toArray] (.agg (ints .u32 X').toArray) rfl (fun W => by go_simp) rfl (wd_none rfl) (fun W _ => HBLK.out W) ?_
      dsimp only [wpT, List.reverse, List.reverseAux, FinT, List.take, List.drop]
      intro W2 hW2 _
      simp only [Act.put, List.setIfInBounds_toArray, List.set_cons_zero, List.set_cons_succ]
      have h52 : RowAt W2 g2 23 .u32 X := (show RowAt wr.drew g2 23 .u32 X from H2.out).ext hW2
      have h53 : RowAt (W2.setRow g2 (ints .u32 X').toArray) g2 23 .u32 X' := setRow_heap W2 g2 _ _ _ _ h52
      have HF4 : Hid (RowAt (W2.setRow g2 (ints .u32 X').toArray) g4 23 .u32 [0, 0, 0, 0, 0]) := (setRow_other W2 g2 g4 _ (Ne.symm hne)).trans ((show RowAt wr.drew g4 23 .u32 [0, 0, 0, 0, 0] from H4.out).ext hW2)
      have hFB0 := below_setRow (Below.drew (HB.out) |>.trans (Below.mono hW2 hsk)) (show w.heap.size ≤ g2 by omega) (ints .u32 X').toArray
      have HFR : Hid (Rd (W2.setRow g2 (ints .u32 X').toArray) w.heap.size 1 A n (ints .u8 L)) := by
        refine (HR.out.below (w' := W2) ((Below.refl wr.heap.size wr).drew.trans hW2) hsk).keep fun p hp => World.cell?_of_block (setRow_other W2 g2 p.block _ (by omega))
      have HFB := Lib.hid hFB0
      have H53 := Lib.hid h53
      refine wpList_store_row rfl 23 _ _ rfl g2 (ints .u32 X').toArray rfl rfl _ _ h52 HI5'.out HOL.out (ints_all_one _ _) ?_
      clear h52 h53 hW2 hFB0
      go_wp2
      exact ⟨⟨k + 1, by omega, by go_num, HFR.out, by rw [HX'.out]; exact H53.out, HF4.out, HFB.out⟩, by simp [intOf]; omega⟩
    · have hkn : n / 64 = k := by omega
      have hXW : W5 (runL x L k) := runL_w5 k _ _ hxw
      have hkr : runL x L (n / 64) = runL x L k := by rw [hkn]
      have HKR := Box.mk hkr
      have HXL : Hid ((runL x L k).length = 5) := hXW.1
      generalize runL x L k = X at *
      have hi5 : (Try.prog.info? 23).map (·.size) = some (ints .u32 X).toArray.size := by rw [show (ints .u32 X).toArray.size = 5 by simpa [ints] using HXL.out]; kernel_rfl
      have hol : (ints .u32 [0, 0, 0, 0, 0]).toArray.size = (ints .u32 X).toArray.size := by rw [show (ints .u32 X).toArray.size = 5 by simpa [ints] using HXL.out]; rfl
      have HI5 := Lib.hid hi5
      have HOL := Lib.hid hol
      have HRW : Hid (RowAt (wr.setRow g4 (ints .u32 X).toArray) g4 23 .u32 X) := setRow_heap wr g4 _ (ints .u32 X).toArray _ _ H4.out
      have hlt' : ¬ ((64 * k : Nat) : Int) + 64 ≤ (n : Int) := by omega
      clear hkn hXW hkr hi5 hol
      go_wp2_with (first
        | (refine wpList_load_row rfl 23 (.tmp 2) rfl g2 rfl _ _ (0, 0) _ H2.out Try.underlying23 rfl HI5.out ?_)
        | (refine wpList_store_row rfl 23 (.tmp 4) (.tmp 18) rfl g4 (ints .u32 X).toArray rfl rfl _ _ H4.out HI5.out HOL.out (ints_all_one _ _) ?_))
      exact bodyPost_ret (v := .agg (ints .u32 X).toArray)
        (results_cell_row (fn := Try.f37) (p := 4) (ty := 23) rfl _ _ g4 _ _ _ _ rfl HRW.out Try.underlying23 rfl HI5.out) rfl
        ⟨by rw [HKR.out], below_setRow HB.out hle4 _⟩
end Go.Proofs.Ytonblhannoinfaa
