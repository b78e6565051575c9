/- Layer 3 (sha): a text's digest, the document's. -/
import Derived.Test.YtonblhannoinfaaShaG
import Derived.Test.YtonblhannoinfaaHexC
namespace Go.Proofs.Ytonblhannoinfaa
open Go.RowKit
theorem zero64 : (#[.int .u8 0, .int .u8 0, .int .u8 0, .int .u8 0, .int .u8 0, .int .u8 0, .int .u8 0, .int .u8 0, .int .u8 0, .int .u8 0, .int .u8 0, .int .u8 0, .int .u8 0, .int .u8 0, .int .u8 0, .int .u8 0, .int .u8 0, .int .u8 0, .int .u8 0, .int .u8 0, .int .u8 0, .int .u8 0, .int .u8 0, .int .u8 0, .int .u8 0, .int .u8 0, .int .u8 0, .int .u8 0, .int .u8 0, .int .u8 0, .int .u8 0, .int .u8 0, .int .u8 0, .int .u8 0, .int .u8 0, .int .u8 0, .int .u8 0, .int .u8 0, .int .u8 0, .int .u8 0, .int .u8 0, .int .u8 0, .int .u8 0, .int .u8 0, .int .u8 0, .int .u8 0, .int .u8 0, .int .u8 0, .int .u8 0, .int .u8 0, .int .u8 0, .int .u8 0, .int .u8 0, .int .u8 0, .int .u8 0, .int .u8 0, .int .u8 0, .int .u8 0, .int .u8 0, .int .u8 0, .int .u8 0, .int .u8 0, .int .u8 0, .int .u8 0] : Array Value) = (ints .u8 (List.replicate 64 0)).toArray := rfl
set_option maxHeartbeats 4000000 in
set_option maxRecDepth 10000 in
theorem refdigest_any (A : Option Addr) (n c B : Nat) (b : List Int) (w : World) (hB : B ≤ w.heap.size) (hr : Rd w B 1 A n (ints .u8 b)) (hb : Bytes8 b) (hn : n ≤ 16384) :
    Calls Try.prog 62 #[.slice A n c] w fun e w' => e = .returned (.agg (ints .u8 (digestL b)).toArray) ∧ Below w.heap.size w w' := by
  have hl : b.length = n := by have := hr.1; simpa [ints] using this
  have hT : (n + (padL n).length) % 64 = 0 ∧ 9 ≤ (padL n).length ∧ (padL n).length ≤ 72 := by rw [padL_length]; omega
  have HT := Lib.hid hT
  have HT8 := Lib.hid (padL_b8 n)
  have HLN := Lib.hid hl
  have HB8 := Lib.hid hb
  have hra := hr.alloc hB (.cells (ints .u8 (List.replicate 20 0)).toArray 43)
  have h20 : RowAt (w.alloc (.cells (ints .u8 (List.replicate 20 0)).toArray 43)) w.heap.size 43 .u8 (List.replicate 20 0) := heap_alloc_new w _
  have hb0 : Below w.heap.size w (w.alloc (.cells (ints .u8 (List.replicate 20 0)).toArray 43)) := (Below.refl _ w).alloc (Nat.le_refl _) _
  have HRA := Lib.hid hra
  have H20 := Lib.hid h20
  have HB0 := Lib.hid hb0
  clear hT hl hb hr hra h20 hb0
  go_enter Try.func62, Try.ntmps62
  go_upto_region 1 with (fail)
  rw [zero20]
  generalize w.alloc (.cells (ints .u8 (List.replicate 20 0)).toArray 43) = wa at *
  have hsa : w.heap.size < wa.heap.size := H20.out.lt
  have h0 : (wa.alloc (.cells #[] 5)).ownsRow wa.heap.size 5 1 (.slice (some ⟨wa.heap.size, 0, none⟩) 0 0) 0 (ints .u8 []) := World.ownsRow_lit wa #[] 0 (Nat.le_refl _) (by unfold maxLen; omega) rfl
  have HO0 := Lib.hid h0
  clear h0
  go_wp2_with (at_builtin; refine app_u8s rfl _ _ rfl wa.heap.size _ _ _ rfl HO0.out B _ _ _ b rfl (HRA.out.alloc (by omega) _) (by omega) (by simp) ?_)
  intro v1 w1 hown1 hg1 _
  obtain ⟨A1, c1, rfl⟩ := own_form hown1
  have hx1 : Below wa.heap.size wa w1 := ((Below.refl _ wa).alloc (Nat.le_refl _) (.cells #[] 5)).grown hg1 (by simp) (fun q hq => (HO0.out.lt q hq).1)
  have HO1 := Lib.hid hown1
  have HX1 := Lib.hid hx1
  have hs1 := hx1.size
  clear hown1 hg1 hx1
  go_wp2_with fail
  refine (reftail_any (n : Int) w1 ⟨by omega, by omega⟩).mono ?_
  rw [Int.toNat_natCast]
  rintro e w2 ⟨v2, rfl, hown2, hb2⟩
  obtain ⟨A2, c2, rfl⟩ := own_form hown2
  have HT2 := Lib.hid (Rd.of_own hown2)
  have HO2 := Lib.hid (own_keep HO1.out hb2)
  have HX2 := Lib.hid (HX1.out.trans (hb2.mono hs1))
  have hs2 := hb2.size
  generalize hTT : padL n = T at *
  have HTT := Box.mk hTT
  generalize htl : T.length = t at *
  have HTL := Box.mk htl
  obtain ⟨ht64, ht9, ht72⟩ := HT.out
  have HT64 := Lib.hid ht64
  clear hown2 hb2 hTT htl ht64 HT
  go_wp2_with (at_builtin; refine app_u8s rfl _ _ rfl wa.heap.size _ _ _ rfl HO2.out w2.heap.size _ _ _ T rfl HT2.out (by omega) (by omega) ?_)
  intro v4 w4 hown hg4 _
  have hx4 : Below wa.heap.size wa w4 := HX2.out.grown hg4 (by omega) (fun q hq => (HO2.out.lt q hq).1)
  obtain ⟨gA, cA, rfl, hgA, hcA⟩ : ∃ gA cA, v4 = .slice (some ⟨gA, 0, none⟩) (n + t) cA ∧ wa.heap.size ≤ gA ∧ n + t ≤ cA := by
    rcases hown.2 with ⟨_, h0⟩ | ⟨g, cap, cur, hv, hg, _, hc, _⟩
    · omega
    · exact ⟨g, cap, hv, hg, hc⟩
  have hcells : ∀ (j : Nat) x, (b ++ T)[j]? = some x → w4.cell? ⟨gA, j, none⟩ = some (.int .u8 x) := fun j x hx => by
    have := hown.cells (g := gA) rfl j (.int .u8 x) (by simp only [ints, List.getElem?_map, hx, Option.map_some])
    rwa [add_mk, Nat.zero_add] at this
  have hgAl := (hown.lt gA rfl).2
  have hLL : b ++ T = allL b := by unfold allL; rw [HLN.out, HTT.out]
  have hLen : (b ++ T).length = n + t := by rw [List.length_append, HLN.out, HTL.out]
  have hL8 : Bytes8 (b ++ T) := fun x hx => (List.mem_append.1 hx).elim (HB8.out x) (HT8.out x)
  obtain ⟨m, hm⟩ : ∃ m, n + t = 64 * m := ⟨(n + t) / 64, by have := HT64.out; omega⟩
  have hdig : digestL b = bytesL (runL firstL (b ++ T) m) := by
    unfold digestL
    rw [← hLL, hLen, show (n + t) / 64 = m by omega]
  have HDIG := Box.mk hdig
  have HLEN := Lib.hid hLen
  have HL8 := Lib.hid hL8
  have HCELLS := Lib.hid hcells
  have H24 : Hid (RowAt w4 w.heap.size 43 .u8 (List.replicate 20 0)) := (hx4.block w.heap.size hsa).trans H20.out
  have HB4 := Lib.hid (HB0.out.trans (hx4.mono HB0.out.size))
  have hm1 : 0 < m := by omega
  have hs4 := HB4.out.size
  clear HTT hLL hdig hx4 hown hg4 hcells hLen hL8
  generalize b ++ T = L at *
  have HM := Lib.hid hm
  have hm16 : m ≤ 300 := by omega
  go_wp2_with fail
  refine (reffirst_any w4).mono ?_
  rintro e w5 ⟨rfl, hb5⟩
  have H5A : Hid ((w5.alloc (.cells zero5 23)).heap[w5.heap.size]? = some (.cells zero5 23 (0, 0))) := heap_alloc_new w5 _
  have HF5 : Hid ((Try.prog.info? 23).map (·.size) = some (ints .u32 firstL).toArray.size) := by show _ = _; kernel_rfl
  have K24 := Lib.hid (H24.out.ext hb5)
  have KC : Hid (∀ (j : Nat) x, L[j]? = some x → w5.cell? ⟨gA, j, none⟩ = some (.int .u8 x)) := fun j x hx => (hb5.cell (p := ⟨gA, j, none⟩) hgAl).trans (HCELLS.out j x hx)
  have KB := Lib.hid (HB4.out.trans (hb5.mono hs4))
  have hs5 := hb5.size
  clear hb5 H24 HCELLS HB4
  go_upto_region 3 with (refine wpList_store_row rfl 23 (.tmp 4) (.tmp 18) rfl w5.heap.size (ints .u32 firstL).toArray rfl rfl _ _ H5A.out HF5.out rfl (ints_all_one _ _) ?_)
  have hx6 : Below w5.heap.size w5 ((w5.alloc (.cells #[.int .u32 0, .int .u32 0, .int .u32 0, .int .u32 0, .int .u32 0] 23)).setRow w5.heap.size (ints .u32 firstL).toArray) := below_setRow ((Below.refl _ w5).alloc (Nat.le_refl _) _) (Nat.le_refl _) _
  have h56 : RowAt ((w5.alloc (.cells #[.int .u32 0, .int .u32 0, .int .u32 0, .int .u32 0, .int .u32 0] 23)).setRow w5.heap.size (ints .u32 firstL).toArray) w5.heap.size 23 .u32 firstL := setRow_heap _ w5.heap.size _ _ _ _ H5A.out
  generalize (w5.alloc (.cells #[.int .u32 0, .int .u32 0, .int .u32 0, .int .u32 0, .int .u32 0] 23)).setRow w5.heap.size (ints .u32 firstL).toArray = w6 at *
  obtain ⟨g4, hg4⟩ : ∃ g4, g4 = w5.heap.size := ⟨_, rfl⟩
  rw [← hg4] at h56
  rw [← hg4]
  have hne : gA ≠ g4 := by omega
  have hg42 : w.heap.size < g4 := by omega
  have M24 := Lib.hid (K24.out.ext hx6)
  have MC : Hid (∀ (j : Nat) x, L[j]? = some x → w6.cell? ⟨gA, j, none⟩ = some (.int .u8 x)) := fun j x hx => (hx6.cell (p := ⟨gA, j, none⟩) (by show gA < _; omega)).trans (KC.out j x hx)
  have MB := Lib.hid (KB.out.trans (hx6.mono KB.out.size))
  have M5 := Lib.hid h56
  have hgl6 : gA < w6.heap.size := by have := hx6.size; omega
  have hs6 := MB.out.size
  clear h56 hx6 hg4 K24 KC KB H5A hs5 hs4 hs2 hs1 hsa hgA hgAl HX1 HX2 HO0 HO1 HO2 HT2 HRA H20 HB0 hcA
  clear hm
  go_wp2
  go_loopw [5] (fun i wr => ∃ k : Nat, k ≤ m ∧ i = .int .i64 ((64 * k : Nat) : Int) ∧ (∀ (j : Nat) x, L[j]? = some x → wr.cell? ⟨gA, j, none⟩ = some (.int .u8 x)) ∧ gA < wr.heap.size ∧ g4 < wr.heap.size ∧
    RowAt wr g4 23 .u32 (runL firstL L k) ∧ RowAt wr w.heap.size 43 .u8 (List.replicate 20 0) ∧ Below w.heap.size w wr) (fun i _ => 64 * m - (intOf i).toNat)
  case atStart => exact ⟨0, by omega, rfl, MC.out, hgl6, M5.out.lt, M5.out, M24.out, MB.out⟩
  case round =>
    obtain ⟨k, hk, rfl, hcl, hgl, hg4l, h5, h2, hbk⟩ := hrel
    clear MC M5 M24 MB hgl6 hs6
    have HC := Lib.hid hcl
    have H5 := Lib.hid h5
    have H2 := Lib.hid h2
    have HB := Lib.hid hbk
    have hsk := hbk.size
    clear hcl h5 h2 hbk
    by_cases hlt : k < m
    · have hbl : ((L.drop (64 * k)).take 64).length = 64 := by rw [List.length_take, List.length_drop, HLEN.out, HM.out]; omega
      have hb8 : Bytes8 ((L.drop (64 * k)).take 64) := fun x hx => HL8.out x (List.mem_of_mem_drop (List.mem_of_mem_take hx))
      have hbg : ∀ j, j < 64 → ∃ x, ((L.drop (64 * k)).take 64)[j]? = some x ∧ L[64 * k + j]? = some x := fun j hj => by
        have h1 : j < ((L.drop (64 * k)).take 64).length := by omega
        refine ⟨_, List.getElem?_eq_getElem h1, ?_⟩
        have h2 := List.getElem?_eq_getElem h1
        rw [← h2, List.getElem?_take, if_pos hj, List.getElem?_drop]
      have hXW : W5 (runL firstL L k) := runL_w5 k _ _ first_w5
      have hnext : runL firstL L (k + 1) = blockL (runL firstL L k) ((L.drop (64 * k)).take 64) := by unfold runL; exact runF_snoc k _ _
      have HBLK : Hid (∀ W, Calls Try.prog 19 #[.agg (ints .u32 (runL firstL L k)).toArray, .agg (ints .u8 ((L.drop (64 * k)).take 64)).toArray] W fun e w' => e = .returned (.agg (ints .u32 (runL firstL L (k + 1))).toArray) ∧ Below W.heap.size W w') := fun W => by
        rw [hnext]
        exact refblock_any _ _ _ _ (arrOf_mk _ _) hXW (arrOf_mk _ _) hb8 hbl W
      have HNW : Hid ((runL firstL L (k + 1)).length = 5) := (runL_w5 (k + 1) _ _ first_w5).1
      have HXL : Hid ((runL firstL L k).length = 5) := hXW.1
      have HBG := Lib.hid hbg
      have HBL := Lib.hid hbl
      generalize hX' : runL firstL L (k + 1) = X' at *
      have HX' := Box.mk hX'
      generalize runL firstL L k = X at *
      generalize (L.drop (64 * k)).take 64 = blk at *
      have hi5 : (Try.prog.info? 23).map (·.size) = some (ints .u32 X).toArray.size := by rw [show (ints .u32 X).toArray.size = 5 by simpa [ints] using HXL.out]; kernel_rfl
      have hi5' : (Try.prog.info? 23).map (·.size) = some (ints .u32 X').toArray.size := by rw [show (ints .u32 X').toArray.size = 5 by simpa [ints] using HNW.out]; kernel_rfl
      have hi64 : (Try.prog.info? 24).map (·.size) = some (ints .u8 blk).toArray.size := by rw [show (ints .u8 blk).toArray.size = 64 by simpa [ints] using HBL.out]; kernel_rfl
      have hol : (ints .u32 X).toArray.size = (ints .u32 X').toArray.size := by rw [show (ints .u32 X').toArray.size = 5 by simpa [ints] using HNW.out]; simpa [ints] using HXL.out
      have HI5 := Lib.hid hi5
      have HI5' := Lib.hid hi5'
      have HI64 := Lib.hid hi64
      have HOL := Lib.hid hol
      clear hbl hb8 hbg hXW hnext hX' hi5 hi5' hi64 hol
      go_upto_region 7 with (fail)
      rw [zero64]
      have hx : Below wr.heap.size wr (wr.alloc (.cells (ints .u8 (List.replicate 64 0)).toArray 24)) := (Below.refl _ wr).alloc (Nat.le_refl _) _
      have h6 : RowAt (wr.alloc (.cells (ints .u8 (List.replicate 64 0)).toArray 24)) wr.heap.size 24 .u8 (outG blk 64 0) := by rw [outG_zero]; exact heap_alloc_new wr _
      generalize wr.alloc (.cells (ints .u8 (List.replicate 64 0)).toArray 24) = wb at *
      obtain ⟨gx, hgx⟩ : ∃ gx, gx = wr.heap.size := ⟨_, rfl⟩
      rw [← hgx] at h6
      rw [← hgx]
      have N5 := Lib.hid (H5.out.ext hx)
      have N2 := Lib.hid (H2.out.ext hx)
      have NC : Hid (∀ (j : Nat) x, L[j]? = some x → wb.cell? ⟨gA, j, none⟩ = some (.int .u8 x)) := fun j x hj => (hx.cell (p := ⟨gA, j, none⟩) hgl).trans (HC.out j x hj)
      have NB := Lib.hid (HB.out.trans (hx.mono hsk))
      have N6 := Lib.hid h6
      have hgxA : gA ≠ gx := by omega
      have hgx4 : g4 ≠ gx := by omega
      have hgx2 : w.heap.size < gx := by omega
      have hglb : gA < wb.heap.size := Nat.lt_of_lt_of_le hgl hx.size
      clear hx h6 hgx H5 H2 HC HB hgl hsk hg4l
      go_wp2
      go_loopw [7] (fun i wr => ∃ j : Nat, j ≤ 64 ∧ i = .int .i64 j ∧ (∀ (j : Nat) x, L[j]? = some x → wr.cell? ⟨gA, j, none⟩ = some (.int .u8 x)) ∧ gA < wr.heap.size ∧ RowAt wr gx 24 .u8 (outG blk 64 j) ∧
        RowAt wr g4 23 .u32 X ∧ RowAt wr w.heap.size 43 .u8 (List.replicate 20 0) ∧ Below w.heap.size w wr) (fun i _ => 64 - (intOf i).toNat)
      case atStart => exact ⟨0, by omega, rfl, NC.out, hglb, N6.out, N5.out, N2.out, NB.out⟩
      case round =>
        obtain ⟨j, hj, rfl, hcl, hgl, h6, h5, h2, hbk⟩ := hrel
        clear NC N6 N5 N2 NB hglb
        have HC := Lib.hid hcl
        have H6 := Lib.hid h6
        have H5 := Lib.hid h5
        have H2 := Lib.hid h2
        have HB := Lib.hid hbk
        have hsk := hbk.size
        clear hcl h6 h5 h2 hbk
        by_cases hj64 : j < 64
        · obtain ⟨x, hx1, hx2⟩ := HBG.out j hj64
          have hld := HC.out _ x hx2
          have hfr := H6.out.frozen j
          have hcl := H6.out.cell (outG_get blk 64 j HBL.out hj64)
          have hst := H6.out.set j x
          rw [outG_set blk 64 j x HBL.out hj64 hx1] at hst
          have HST := Lib.hid hst
          have F5 : Hid (RowAt (wr.setCell ⟨gx, j, none⟩ (.int .u8 x)) g4 23 .u32 X) := (heap_setCell_other wr _ g4 _ hgx4).trans H5.out
          have F2 : Hid (RowAt (wr.setCell ⟨gx, j, none⟩ (.int .u8 x)) w.heap.size 43 .u8 (List.replicate 20 0)) := (heap_setCell_other wr _ w.heap.size _ (by show w.heap.size ≠ gx; omega)).trans H2.out
          have FC : Hid (∀ (i : Nat) y, L[i]? = some y → (wr.setCell ⟨gx, j, none⟩ (.int .u8 x)).cell? ⟨gA, i, none⟩ = some (.int .u8 y)) := fun i y hi => by
            rw [World.cell?_setCell_other wr _ ⟨gA, i, none⟩ _ (fun e => by injection e with e; exact hgxA e.symm)]
            exact HC.out i y hi
          have FB := Lib.hid (HB.out.setCell (p := ⟨gx, j, none⟩) (show w.heap.size ≤ gx by omega) (.int .u8 x))
          have hi1 : ((64 * k : Nat) : Int) + (j : Int) < ((64 * m : Nat) : Int) := by omega
          clear hst hx1 hx2
          go_wp2
          exact ⟨⟨j + 1, by omega, by go_num, FC.out, by simpa using hgl, HST.out, F5.out, F2.out, FB.out⟩, by simp [intOf]; omega⟩
        · obtain rfl : j = 64 := by omega
          have h6 := H6.out
          rw [outG_end blk 64 HBL.out] at h6
          have H6F := Lib.hid h6
          have h5n := setRow_heap wr g4 _ (ints .u32 X').toArray _ _ H5.out
          have FR : Hid (RowAt (wr.setRow g4 (ints .u32 X').toArray) g4 23 .u32 X') := h5n
          clear h6 h5n H6
          go_wp2_with (first
            | (refine wpList_load_row rfl 23 (.tmp 4) rfl g4 rfl _ _ (0, 0) _ H5.out Try.underlying23 rfl HI5.out ?_)
            | (refine wpList_load_row rfl 24 (.tmp 6) rfl gx rfl _ _ (0, 0) _ H6F.out Try.underlying24 rfl HI64.out ?_))
          refine (HBLK.out _).mono ?_
          rintro e w9 ⟨rfl, hb9⟩
          have H59 := Lib.hid (H5.out.ext hb9)
          have FR9 : Hid (RowAt (w9.setRow g4 (ints .u32 X').toArray) g4 23 .u32 X') := setRow_heap w9 g4 _ _ _ _ (H5.out.ext hb9)
          have F29 : Hid (RowAt (w9.setRow g4 (ints .u32 X').toArray) w.heap.size 43 .u8 (List.replicate 20 0)) := (setRow_other w9 g4 w.heap.size _ (by omega)).trans (H2.out.ext hb9)
          have FC9 : Hid (∀ (i : Nat) y, L[i]? = some y → (w9.setRow g4 (ints .u32 X').toArray).cell? ⟨gA, i, none⟩ = some (.int .u8 y)) := fun i y hi => by
            rw [← (hb9.cell (p := ⟨gA, i, none⟩) hgl).trans (HC.out i y hi)]
            exact World.cell?_of_block (setRow_other w9 g4 gA _ hne)
          have FB9 := Lib.hid (below_setRow (HB.out.trans (hb9.mono hsk)) (show w.heap.size ≤ g4 by omega) (ints .u32 X').toArray)
          have hgl9 : gA < (w9.setRow g4 (ints .u32 X').toArray).heap.size := by rw [size_setRow]; exact Nat.lt_of_lt_of_le hgl hb9.size
          clear hb9
          go_wp2_with (refine wpList_store_row rfl 23 (.tmp 4) (.tmp 39) rfl g4 (ints .u32 X').toArray rfl rfl _ _ H59.out HI5'.out HOL.out (ints_all_one _ _) ?_)
          exact ⟨⟨k + 1, by omega, by congr 1, FC9.out, hgl9, FR9.out.lt, by rw [HX'.out]; exact FR9.out, F29.out, FB9.out⟩, by simp [intOf]; omega⟩
    · obtain rfl : k = m := by omega
      have hXW : W5 (runL firstL L k) := runL_w5 k _ _ first_w5
      generalize runL firstL L k = X at *
      have HXW := Lib.hid hXW
      have hbl := bytesL_length X
      rw [hXW.1] at hbl
      have HBL := Lib.hid hbl
      clear hXW hbl HC hgl hk hlt
      go_upto_region 13 with (fail)
      rw [zero20]
      have hx : Below wr.heap.size wr (wr.alloc (.cells (ints .u8 (List.replicate 20 0)).toArray 43)) := (Below.refl _ wr).alloc (Nat.le_refl _) _
      have h8 : RowAt (wr.alloc (.cells (ints .u8 (List.replicate 20 0)).toArray 43)) wr.heap.size 43 .u8 (outG (bytesL X) 20 0) := by rw [outG_zero]; exact heap_alloc_new wr _
      generalize wr.alloc (.cells (ints .u8 (List.replicate 20 0)).toArray 43) = wb at *
      obtain ⟨g8, hg8⟩ : ∃ g8, g8 = wr.heap.size := ⟨_, rfl⟩
      rw [← hg8] at h8
      rw [← hg8]
      have h5b := H5.out.ext hx
      have N2 := Lib.hid (H2.out.ext hx)
      have NB := Lib.hid (HB.out.trans (hx.mono hsk))
      have N8 := Lib.hid h8
      have hg82 : w.heap.size < g8 := by have := H2.out.lt; omega
      have hrh : Rd wb wb.heap.size 1 (some ⟨g4, 0, none⟩) 5 (ints .u32 X) := ⟨by simp [ints, HXW.out.1], fun _ => ⟨g4, 0, rfl, h5b.lt, fun j u hu => by
        obtain ⟨x, hx, rfl⟩ := ints_get hu
        rw [Nat.zero_add]
        exact h5b.cell hx⟩⟩
      have HRH := Lib.hid hrh
      clear hx h8 hg8 H5 H2 HB h5b hrh
      go_wp2_with fail
      refine (refbytes_any _ 5 5 _ X _ (by omega) (Nat.le_refl _) HXW.out.2 HRH.out).mono ?_
      rintro e w9 ⟨v9, rfl, hown9, hb9⟩
      obtain ⟨A9, c9, rfl⟩ := own_form hown9
      have hr9 := Rd.of_own hown9
      rw [show 4 * 5 = 20 from rfl] at hr9
      obtain ⟨g9, off9, rfl, hg9, hc9⟩ := hr9.2 (by omega)
      have hg98 : g9 ≠ g8 := by have := (hown9.lt g9 rfl).1; have := N8.out.lt; omega
      have KC : Hid (∀ (j : Nat) x, (bytesL X)[j]? = some x → w9.cell? ⟨g9, off9 + j, none⟩ = some (.int .u8 x)) := fun j x hx => hc9 j (.int .u8 x) (by simp [ints, hx])
      have K8 := Lib.hid (N8.out.ext hb9)
      have K2 := Lib.hid (N2.out.ext hb9)
      have KB := Lib.hid (NB.out.trans (hb9.mono NB.out.size))
      clear hown9 hr9 hc9 hb9 N8 N2 NB HRH
      generalize hZ : bytesL X = Z at *
      have HZ := Box.mk hZ
      clear hZ
      go_wp2
      go_loopw [10] (fun i wr => ∃ j : Nat, j ≤ 20 ∧ i = .int .i64 j ∧ (∀ (j : Nat) x, Z[j]? = some x → wr.cell? ⟨g9, off9 + j, none⟩ = some (.int .u8 x)) ∧ RowAt wr g8 43 .u8 (outG Z 20 j) ∧ RowAt wr w.heap.size 43 .u8 (List.replicate 20 0) ∧ Below w.heap.size w wr) (fun i _ => 20 - (intOf i).toNat)
      case atStart => exact ⟨0, by omega, rfl, KC.out, K8.out, K2.out, KB.out⟩
      case round =>
        obtain ⟨j, hj, rfl, hcl, h8, h2, hbk⟩ := hrel
        clear KC K8 K2 KB
        have HC := Lib.hid hcl
        have H8 := Lib.hid h8
        have H2 := Lib.hid h2
        have HB := Lib.hid hbk
        clear hcl h8 h2 hbk
        by_cases hj20 : j < 20
        · obtain ⟨x, hx1⟩ : ∃ x, Z[j]? = some x := ⟨_, List.getElem?_eq_getElem (by rw [HBL.out]; exact hj20)⟩
          have hld := HC.out _ x hx1
          have hfr := H8.out.frozen j
          have hcl := H8.out.cell (outG_get Z 20 j HBL.out hj20)
          have hst := H8.out.set j x
          rw [outG_set Z 20 j x HBL.out hj20 hx1] at hst
          have HST := Lib.hid hst
          have F2 : Hid (RowAt (wr.setCell ⟨g8, j, none⟩ (.int .u8 x)) w.heap.size 43 .u8 (List.replicate 20 0)) := (heap_setCell_other wr _ w.heap.size _ (by show w.heap.size ≠ g8; omega)).trans H2.out
          have FC : Hid (∀ (i : Nat) y, Z[i]? = some y → (wr.setCell ⟨g8, j, none⟩ (.int .u8 x)).cell? ⟨g9, off9 + i, none⟩ = some (.int .u8 y)) := fun i y hi => by
            rw [World.cell?_setCell_other wr _ ⟨g9, off9 + i, none⟩ _ (fun e => by injection e with e; exact hg98 e.symm)]
            exact HC.out i y hi
          have FB := Lib.hid (HB.out.setCell (p := ⟨g8, j, none⟩) (show w.heap.size ≤ g8 by omega) (.int .u8 x))
          clear hst hx1
          go_wp2
          exact ⟨⟨j + 1, by omega, by go_num, FC.out, HST.out, F2.out, FB.out⟩, by simp [intOf]; omega⟩
        · obtain rfl : j = 20 := by omega
          have h8 := H8.out
          rw [outG_end Z 20 HBL.out] at h8
          have hsz : (Try.prog.info? 43).map (·.size) = some (ints .u8 Z).toArray.size := by rw [show (ints .u8 Z).toArray.size = 20 by simpa [ints] using HBL.out]; kernel_rfl
          have hol : (ints .u8 (List.replicate 20 0)).toArray.size = (ints .u8 Z).toArray.size := by rw [show (ints .u8 Z).toArray.size = 20 by simpa [ints] using HBL.out]; rfl
          have hrow := setRow_heap wr w.heap.size _ (ints .u8 Z).toArray _ _ H2.out
          have H8F := Lib.hid h8
          have HSZ := Lib.hid hsz
          have HOL := Lib.hid hol
          have HROW := Lib.hid hrow
          clear h8 hsz hol hrow
          go_wp2_with (first
            | (refine wpList_load_row rfl 43 (.tmp 8) rfl g8 rfl _ _ (0, 0) _ H8F.out Try.underlying43 rfl HSZ.out ?_)
            | (refine wpList_store_row rfl 43 (.tmp 2) (.tmp 52) rfl w.heap.size (ints .u8 Z).toArray rfl rfl _ _ H2.out HSZ.out HOL.out (ints_all_one _ _) ?_))
          exact bodyPost_ret (v := .agg (ints .u8 Z).toArray)
            (results_cell_row (fn := Try.f62) (p := 2) (ty := 43) rfl _ _ w.heap.size _ _ _ _ rfl HROW.out Try.underlying43 rfl HSZ.out) rfl
            ⟨by rw [HDIG.out], below_setRow HB.out (Nat.le_refl _) _⟩
set_option maxHeartbeats 1000000 in
set_option maxRecDepth 10000 in
theorem refof_sha (A : Option Addr) (n c B : Nat) (b : List Int) (w : World) (hB : B ≤ w.heap.size) (hr : Rd w B 1 A n (ints .u8 b)) (hb : Bytes8 b) (h63 : n ≤ 9223372036854775807) :
    Calls Try.prog 32 #[.slice A n c] w (ShaPost b w) := by
  have hl : b.length = n := by have := hr.1; simpa [ints] using this
  by_cases hn : 16384 < n
  · have hs : shaErr b.length = 4 ∧ shaO b = List.replicate 20 0 := ⟨by unfold shaErr; rw [if_pos (by omega)], by unfold shaO; rw [if_pos (by omega)]⟩
    have HS := Lib.hid hs
    have hn' : (16384 : Int) < (n : Int) := by omega
    clear hs hl
    go_enter Try.func32, Try.ntmps32
    go_upto_region 2 with (fail)
    rw [zero20]
    have hx : Below w.heap.size w (w.alloc (.cells (ints .u8 (List.replicate 20 0)).toArray 43)) := (Below.refl _ w).alloc (Nat.le_refl _) _
    have h2 : RowAt (w.alloc (.cells (ints .u8 (List.replicate 20 0)).toArray 43)) w.heap.size 43 .u8 (List.replicate 20 0) := heap_alloc_new w _
    generalize w.alloc (.cells (ints .u8 (List.replicate 20 0)).toArray 43) = wa at *
    have HX := Lib.hid hx
    have H2 := Lib.hid h2
    have hrow := setRow_heap wa w.heap.size _ (ints .u8 (List.replicate 20 0)).toArray _ _ h2
    have HROW := Lib.hid hrow
    have HSZ : Hid ((Try.prog.info? 43).map (·.size) = some (ints .u8 (List.replicate 20 0)).toArray.size) := by show _ = _; kernel_rfl
    clear hx h2 hrow hr hb
    go_wp2_with (refine wpList_store_row rfl 43 (.tmp 2) (.tmp 7) rfl w.heap.size (ints .u8 (List.replicate 20 0)).toArray rfl rfl _ _ H2.out HSZ.out rfl (ints_all_one _ _) ?_)
    exact bodyPost_ret (v := .tuple #[.agg (ints .u8 (List.replicate 20 0)).toArray, .int .i64 4])
      (results_cell_tmp (fn := Try.f32) (p := 2) (s := 3) (ty := 43) rfl _ _ w.heap.size _ _ _ _ rfl rfl HROW.out Try.underlying43 HSZ.out) rfl
      ⟨by rw [HS.out.1, HS.out.2], below_setRow HX.out (Nat.le_refl _) _⟩
  · have hs : shaErr b.length = 0 ∧ shaO b = digestL b := ⟨by unfold shaErr; rw [if_neg (by omega)], by unfold shaO; rw [if_neg (by omega)]⟩
    have HS := Lib.hid hs
    have hn' : (n : Int) ≤ 16384 := by omega
    have HD := Lib.hid (refdigest_any A n c B b)
    have HRA := Lib.hid (hr.alloc hB (.cells (ints .u8 (List.replicate 20 0)).toArray 43))
    have HB8 := Lib.hid hb
    clear hs hl hb hr
    go_enter Try.func32, Try.ntmps32
    go_wp2_with fail
    rw [zero20]
    have hx : Below w.heap.size w (w.alloc (.cells (ints .u8 (List.replicate 20 0)).toArray 43)) := (Below.refl _ w).alloc (Nat.le_refl _) _
    have h2 : RowAt (w.alloc (.cells (ints .u8 (List.replicate 20 0)).toArray 43)) w.heap.size 43 .u8 (List.replicate 20 0) := heap_alloc_new w _
    generalize w.alloc (.cells (ints .u8 (List.replicate 20 0)).toArray 43) = wa at *
    refine (HD.out wa (Nat.le_trans hB hx.size) HRA.out HB8.out (by omega)).mono ?_
    rintro e w1 ⟨rfl, hb1⟩
    have h21 := h2.ext hb1
    have HB1 := Lib.hid (hx.trans (hb1.mono hx.size))
    have hsz : (Try.prog.info? 43).map (·.size) = some (ints .u8 (digestL b)).toArray.size := by rw [show (ints .u8 (digestL b)).toArray.size = 20 by simpa [ints] using digestL_length b]; kernel_rfl
    have hol : (ints .u8 (List.replicate 20 0)).toArray.size = (ints .u8 (digestL b)).toArray.size := by rw [show (ints .u8 (digestL b)).toArray.size = 20 by simpa [ints] using digestL_length b]; rfl
    have hrow := setRow_heap w1 w.heap.size _ (ints .u8 (digestL b)).toArray _ _ h21
    have H21 := Lib.hid h21
    have HSZ := Lib.hid hsz
    have HOL := Lib.hid hol
    have HROW := Lib.hid hrow
    clear hx h2 h21 hb1 hsz hol hrow HD HRA
    generalize hD : digestL b = D at *
    have HD := Box.mk hD
    clear hD
    go_wp2_with (refine wpList_store_row rfl 43 (.tmp 2) (.tmp 9) rfl w.heap.size (ints .u8 D).toArray rfl rfl _ _ H21.out HSZ.out HOL.out (ints_all_one _ _) ?_)
    exact bodyPost_ret (v := .tuple #[.agg (ints .u8 D).toArray, .int .i64 0])
      (results_cell_tmp (fn := Try.f32) (p := 2) (s := 3) (ty := 43) rfl _ _ w.heap.size _ _ _ _ rfl rfl HROW.out Try.underlying43 HSZ.out) rfl
      ⟨by rw [HS.out.1, HS.out.2], below_setRow HB1.out (Nat.le_refl _) _⟩
end Go.Proofs.Ytonblhannoinfaa
