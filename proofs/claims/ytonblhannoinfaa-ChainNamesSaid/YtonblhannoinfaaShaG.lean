/- Layer 3 (sha): a text's digest, the program's. -/
import Derived.Test.YtonblhannoinfaaShaF
import Derived.Test.YtonblhannoinfaaShaBlocks
namespace Go.Proofs.Ytonblhannoinfaa
open Go.RowKit
def shaErr (n : Nat) : Int := if 16384 < n then 4 else 0
def shaO (b : List Int) : List Int := if 16384 < b.length then List.replicate 20 0 else digestL b
theorem shaO_length (b : List Int) : (shaO b).length = 20 := by
  unfold shaO
  split
  · simp
  · exact digestL_length b
theorem shaO_b8 (b : List Int) : Bytes8 (shaO b) := by
  unfold shaO
  split
  · intro x hx
    have := List.eq_of_mem_replicate hx
    omega
  · exact digestL_b8 b
def ShaPost (b : List Int) (w : World) (e : Ending) (w' : World) : Prop :=
  e = .returned (.tuple #[.agg (ints .u8 (shaO b)).toArray, .int .i64 (shaErr b.length)]) ∧ Below w.heap.size w w'
theorem results_cell_tmp {P : Program} {fn : Func} {p s : Tmp} {ty : TypeId} (h : fn.results = #[.cell p ty, .tmp s]) (tmps : Array Value) (w : World) (g : Nat) (t : TypeId) (cs : Array Value) (fr : Nat × Nat) (v : Value) {m : Nat} {te : TypeId}
    (hp : tmps.getD p undef = .pointer (some ⟨g, 0, none⟩)) (hs : tmps.getD s undef = v) (hg : w.heap[g]? = some (.cells cs t fr)) (hu : P.underlying ty = some (.array m te)) (hi : (P.info? ty).map (·.size) = some cs.size) :
    (results fn tmps).run P w = .ok (.tuple #[.agg cs, v]) w := by
  have hp' : tmps[p]?.getD undef = .pointer (some ⟨g, 0, none⟩) := by simpa using hp
  have hs' : tmps[s]?.getD undef = v := by simpa using hs
  simp [results, h, hp', hs', asAddr, run_loadVar_row w g t ty cs fr (.array m te) hg hu rfl hi]
theorem zero20 : (#[.int .u8 0, .int .u8 0, .int .u8 0, .int .u8 0, .int .u8 0, .int .u8 0, .int .u8 0, .int .u8 0, .int .u8 0, .int .u8 0, .int .u8 0, .int .u8 0, .int .u8 0, .int .u8 0, .int .u8 0, .int .u8 0, .int .u8 0, .int .u8 0, .int .u8 0, .int .u8 0] : Array Value) = (ints .u8 (List.replicate 20 0)).toArray := rfl
theorem loadVar_at (w : World) (gA off : Nat) (l : List Int) (hl : l.length = 64) (hc : ∀ j x, l[j]? = some x → w.cell? ⟨gA, off + j, none⟩ = some (.int .u8 x)) : (loadVar 24 ⟨gA, off, none⟩).run Try.prog w = .ok (.agg (ints .u8 l).toArray) w := by
  have hlen : (ints .u8 l).length = 64 := by simp [ints, hl]
  have hl2 := run_loadCells_list (P := Try.prog) w ⟨gA, off, none⟩ (ints .u8 l) (fun j v hv => by
    obtain ⟨x, hx, rfl⟩ := ints_get hv
    rw [add_mk]
    exact hc j x hx)
  rw [hlen] at hl2
  have hagg : (isAgg 24).run Try.prog w = .ok true w := Try.isAgg24 w
  have hsz : (sizeOf 24).run Try.prog w = .ok 64 w := Try.sizeOf24 w
  simp only [loadVar, Sem.run_bind, hagg, Result.andThen_ok, if_true, hsz, hl2, Sem.run_pure]
set_option maxHeartbeats 2000000 in
set_option maxRecDepth 10000 in
theorem of_many_sha (A : Option Addr) (n c B : Nat) (b : List Int) (w : World) (hB : B ≤ w.heap.size) (hl : b.length = n) (hn : 16384 < n) (h63 : n ≤ 9223372036854775807) :
    Calls Try.prog 31 #[.slice A n c] w (ShaPost b w) := by
  have hp : padErr (n : Int) = 4 ∧ padO (n : Int) = [] := by
    have : ¬ (0 ≤ (n : Int) ∧ (n : Int) ≤ 16384) := by omega
    exact ⟨by unfold padErr; rw [if_neg this], by unfold padO; rw [if_neg this]⟩
  have hs : shaErr b.length = 4 ∧ shaO b = List.replicate 20 0 := ⟨by unfold shaErr; rw [if_pos (by omega)], by unfold shaO; rw [if_pos (by omega)]⟩
  have HP := Lib.hid hp
  have HS := Lib.hid hs
  clear hp hs
  go_enter Try.func31, Try.ntmps31
  go_wp2_with fail
  refine (pad_any (n : Int) _ (by omega) (by omega)).mono ?_
  rintro e w1 ⟨A1, c1, he, hr1, hb1, _⟩
  rw [HP.out.1, HP.out.2] at he
  subst he
  rw [zero20] at hb1
  have h2 : RowAt w1 w.heap.size 43 .u8 (List.replicate 20 0) := (hb1.block w.heap.size (by simp)).trans (heap_alloc_new w _)
  have HB := Lib.hid (((Below.refl w.heap.size w).alloc (Nat.le_refl _) (.cells (ints .u8 (List.replicate 20 0)).toArray 43)).trans (hb1.mono (by simp)))
  have hrow := setRow_heap w1 w.heap.size _ (ints .u8 (List.replicate 20 0)).toArray _ _ h2
  have H2 := Lib.hid h2
  have HR := Lib.hid hrow
  have HSZ : Hid ((Try.prog.info? 43).map (·.size) = some (ints .u8 (List.replicate 20 0)).toArray.size) := by show _ = _; kernel_rfl
  clear hr1 hb1 h2 hrow
  go_wp2_with (first
    | (refine wpList_load_row rfl 43 (.tmp 2) rfl w.heap.size rfl _ _ (0, 0) _ H2.out Try.underlying43 rfl HSZ.out ?_)
    | (refine wpList_store_row rfl 43 (.tmp 2) (.tmp 15) rfl w.heap.size (ints .u8 (List.replicate 20 0)).toArray rfl rfl _ _ H2.out HSZ.out rfl (ints_all_one _ _) ?_))
  exact bodyPost_ret (v := .tuple #[.agg (ints .u8 (List.replicate 20 0)).toArray, .int .i64 4])
    (results_cell_tmp (fn := Try.f31) (p := 2) (s := 3) (ty := 43) rfl _ _ w.heap.size _ _ _ _ rfl rfl HR.out Try.underlying43 HSZ.out) rfl
    ⟨by rw [HS.out.1, HS.out.2], below_setRow HB.out (Nat.le_refl _) _⟩
theorem allL_len (b : List Int) : (allL b).length = 64 * ((allL b).length / 64) := by have := allL_length b; omega
set_option maxHeartbeats 4000000 in
set_option maxRecDepth 10000 in
theorem of_ok_sha (A : Option Addr) (n c B : Nat) (b : List Int) (w : World) (hB : B ≤ w.heap.size) (hr : Rd w B 1 A n (ints .u8 b)) (hb : Bytes8 b) (hc : n ≤ c) (hn : n ≤ 16384) (hA : A = none → n = 0) :
    Calls Try.prog 31 #[.slice A n c] w (ShaPost b w) := by
  have hl : b.length = n := by have := hr.1; simpa [ints] using this
  have hp : padErr (n : Int) = 0 ∧ padO (n : Int) = padL n := by
    have : 0 ≤ (n : Int) ∧ (n : Int) ≤ 16384 := by omega
    exact ⟨by unfold padErr; rw [if_pos this], by unfold padO; rw [if_pos this, Int.toNat_natCast]⟩
  have hs : shaErr b.length = 0 ∧ shaO b = digestL b := ⟨by unfold shaErr; rw [if_neg (by omega)], by unfold shaO; rw [if_neg (by omega)]⟩
  obtain ⟨A0, hcut, hrd0⟩ := full_u8s A n c hc
  have hA0 : A0 = none → n = 0 := by
    intro h
    rcases Nat.eq_zero_or_pos n with h0 | h0
    · exact h0
    · obtain ⟨_, _, e, _⟩ := (hrd0 _ _ _ hr).2 h0
      rw [h] at e; cases e
  have HP := Lib.hid hp
  have HS := Lib.hid hs
  have HCUT := Lib.hid hcut
  have HRD0 := Lib.hid hrd0
  have HA0 := Lib.hid hA0
  have HLN := Lib.hid hl
  have HB8 := Lib.hid hb
  have HRB := Lib.hid hr
  have HT8 := Lib.hid (padL_b8 n)
  have hT : (n + (padL n).length) % 64 = 0 ∧ 9 ≤ (padL n).length ∧ (padL n).length ≤ 72 := by rw [padL_length]; omega
  have HT := Lib.hid hT
  clear hT hp hs hcut hrd0 hA0 hl hb hr hA hc
  go_enter Try.func31, Try.ntmps31
  go_wp2_with fail
  refine (pad_any (n : Int) _ (by omega) (by omega)).mono ?_
  rintro e w1 ⟨A1, c1, he, hr1, hb1, _⟩
  rw [HP.out.1, HP.out.2] at he
  rw [HP.out.2] at hr1
  subst he
  rw [zero20] at hb1
  have h2 : RowAt w1 w.heap.size 43 .u8 (List.replicate 20 0) := (hb1.block w.heap.size (by simp)).trans (heap_alloc_new w _)
  have HB1 := Lib.hid (((Below.refl w.heap.size w).alloc (Nat.le_refl _) (.cells (ints .u8 (List.replicate 20 0)).toArray 43)).trans (hb1.mono (by simp)))
  have hs1 := hb1.size
  simp at hs1
  have H2 := Lib.hid h2
  have HR1 := Lib.hid hr1
  generalize hTT : padL n = T at *
  have HTT := Box.mk hTT
  generalize htl : T.length = t at *
  have HTL := Box.mk htl
  obtain ⟨ht64, ht9, ht72⟩ := HT.out
  have HT64 := Lib.hid ht64
  clear hr1 hb1 h2 hTT HP htl ht64 HT
  go_wp2_with fail
  refine (first_any w1).mono ?_
  rintro e w2 ⟨rfl, hb2⟩
  have h2b : RowAt w2 w.heap.size 43 .u8 (List.replicate 20 0) := H2.out.ext hb2
  have HR2 := Lib.hid ((HR1.out.below hb2 (Nat.le_refl _)).more hb2.size)
  have HB2 := Lib.hid (HB1.out.trans (hb2.mono HB1.out.size))
  have hs2 := hb2.size
  have H2B := Lib.hid h2b
  have H5A : Hid ((w2.alloc (.cells zero5 23)).heap[w2.heap.size]? = some (.cells zero5 23 (0, 0))) := heap_alloc_new w2 _
  have HF5 : Hid ((Try.prog.info? 23).map (·.size) = some (ints .u32 firstL).toArray.size) := by show _ = _; kernel_rfl
  clear hb2 h2b
  go_upto_region 5 with (refine wpList_store_row rfl 23 (.tmp 5) (.tmp 17) rfl w2.heap.size (ints .u32 firstL).toArray rfl rfl _ _ H5A.out HF5.out rfl (ints_all_one _ _) ?_)
  have hx3 : Below w2.heap.size w2 ((w2.alloc (.cells #[.int .u32 0, .int .u32 0, .int .u32 0, .int .u32 0, .int .u32 0] 23)).setRow w2.heap.size (ints .u32 firstL).toArray) := below_setRow ((Below.refl _ w2).alloc (Nat.le_refl _) _) (Nat.le_refl _) _
  have h53 : RowAt ((w2.alloc (.cells #[.int .u32 0, .int .u32 0, .int .u32 0, .int .u32 0, .int .u32 0] 23)).setRow w2.heap.size (ints .u32 firstL).toArray) w2.heap.size 23 .u32 firstL := setRow_heap _ w2.heap.size _ _ _ _ H5A.out
  generalize (w2.alloc (.cells #[.int .u32 0, .int .u32 0, .int .u32 0, .int .u32 0, .int .u32 0] 23)).setRow w2.heap.size (ints .u32 firstL).toArray = w3 at *
  obtain ⟨g5, hg5⟩ : ∃ g5, g5 = w2.heap.size := ⟨_, rfl⟩
  rw [← hg5] at h53
  have hlt5 := h53.lt
  have hg52 : w.heap.size < g5 := by omega
  have hrt3 := (HR2.out.below hx3 (Nat.le_refl _)).more hx3.size
  have hrb3 : Rd w3 B 1 A0 n (ints .u8 b) := HRD0.out _ _ _ ((HRB.out.below (HB2.out) hB).below hx3 (by omega))
  have h23 := H2B.out.ext hx3
  have HB3 := Lib.hid (HB2.out.trans (hx3.mono (by omega)))
  have HG5 := Lib.hid hg5
  have hsum := app_full w3 A0 n B b A1 t c1 w3.heap.size T 28 hrb3 hrt3 (by omega) (by omega) HA0.out
  obtain ⟨v4, w4, hrun, hown, hb4⟩ := hsum
  have HRUN := Lib.hid hrun
  have h24 := h23.ext hb4
  have h54 := h53.ext hb4
  have HB4 := Lib.hid (HB3.out.trans (hb4.mono HB3.out.size))
  obtain ⟨gA, cA, rfl, hgA, hcA⟩ : ∃ gA cA, v4 = .slice (some ⟨gA, 0, none⟩) (n + t) cA ∧ w3.heap.size ≤ gA ∧ n + t ≤ cA := by
    rcases hown.2 with ⟨_, h0⟩ | ⟨g, cap, cur, hv, hg, _, hc, _⟩
    · omega
    · exact ⟨g, cap, hv, hg, hc⟩
  have hcells : ∀ (j : Nat) x, (b ++ T)[j]? = some x → w4.cell? ⟨gA, j, none⟩ = some (.int .u8 x) := fun j x hx => by
    have := hown.cells (g := gA) rfl j (.int .u8 x) (by simp only [ints, List.getElem?_map, hx, Option.map_some])
    rwa [add_mk, Nat.zero_add] at this
  have hgAl := (hown.lt gA rfl).2
  have hLL : b ++ T = allL b := by unfold allL; rw [HLN.out, HTT.out]
  have hLen : (b ++ T).length = n + t := by rw [List.length_append, HLN.out, HTL.out]
  have hL8 : Bytes8 (b ++ T) := fun x hx => (List.mem_append.1 hx).elim (HB8.out x) (HT8.out x)
  obtain ⟨m, hm⟩ : ∃ m, n + t = 64 * m := ⟨(n + t) / 64, by have := HT64.out; omega⟩
  have hdig : shaO b = bytesL (runL firstL (b ++ T) m) := by
    rw [HS.out.2]
    unfold digestL
    rw [← hLL, hLen, show (n + t) / 64 = m by omega]
  have HDIG := Box.mk hdig
  have HLEN := Lib.hid hLen
  have HL8 := Lib.hid hL8
  have HCELLS := Lib.hid hcells
  have H54 := Lib.hid h54
  have H24 := Lib.hid h24
  have HCUT2 := HCUT.out
  have hm1 : 0 < m := by omega
  rw [← hg5]
  clear HTT hLL hdig
  generalize b ++ T = L at *
  rw [hm] at hcA
  have hne52 : gA ≠ g5 := by omega
  clear hrun hown hb4 hcells hLen hL8 h24 h54 h23 h53 hrt3 hrb3 hx3 hg5 HR1 HR2 H2 H2B H5A HB1 HB2 HRD0 HRB HCUT HA0
  have HM := Lib.hid hm
  go_wp2_with (at_builtin; refine Lib.wpList_append_run _ rfl _ _ _ _ rfl _ _ rfl rfl _ _ HRUN.out ?_)
  clear HCUT2 hm
  go_loopw [6] (fun v wr => ∃ (k : Nat) (A : Option Addr) (cc : Nat), k ≤ m ∧ v = .slice A (64 * (m - k)) cc ∧ 64 * (m - k) ≤ cc ∧ (k < m → A = some ⟨gA, 64 * k, none⟩) ∧ (∀ (j : Nat) x, L[j]? = some x → wr.cell? ⟨gA, j, none⟩ = some (.int .u8 x)) ∧ gA < wr.heap.size ∧
    RowAt wr g5 23 .u32 (runL firstL L k) ∧ RowAt wr w.heap.size 43 .u8 (List.replicate 20 0) ∧ Below w.heap.size w wr) (fun v _ => lenV v)
  case atStart => exact ⟨0, _, _, by omega, rfl, hcA, fun _ => rfl, HCELLS.out, hgAl, H54.out, H24.out, HB4.out⟩
  case round =>
    obtain ⟨k, A2, cc, hk, rfl, hcc, hA2, hcl, hgl, h5, h2, hbk⟩ := hrel
    clear HCELLS hgAl H54 H24 HB4 HB3 HRUN hcA
    have HC := Lib.hid hcl
    have H5 := Lib.hid h5
    have H2 := Lib.hid h2
    have HB := Lib.hid hbk
    have hsk := hbk.size
    clear hcl h5 h2 hbk
    by_cases hlt : k < m
    · obtain rfl := hA2 hlt
      have hpos : (0 : Int) < ((64 * (m - k) : Nat) : Int) := by omega
      have hXW : W5 (runL firstL L k) := runL_w5 k _ _ first_w5
      have hbl : ((L.drop (64 * k)).take 64).length = 64 := by rw [List.length_take, List.length_drop, HLEN.out, HM.out]; omega
      have hb8 : Bytes8 ((L.drop (64 * k)).take 64) := fun x hx => HL8.out x (List.mem_of_mem_drop (List.mem_of_mem_take hx))
      have hnext : runL firstL L (k + 1) = blockL (runL firstL L k) ((L.drop (64 * k)).take 64) := by unfold runL; exact runF_snoc k _ _
      have HBLK : Hid (∀ W, Calls Try.prog 18 #[.agg (ints .u32 (runL firstL L k)).toArray, .agg (ints .u8 ((L.drop (64 * k)).take 64)).toArray] W fun e w' => e = .returned (.agg (ints .u32 (runL firstL L (k + 1))).toArray) ∧ Below W.heap.size W w') := fun W => by
        rw [hnext]
        exact block_any _ _ _ _ (arrOf_mk _ _) hXW (arrOf_mk _ _) hb8 hbl W
      have HNW : Hid ((runL firstL L (k + 1)).length = 5) := (runL_w5 (k + 1) _ _ first_w5).1
      have HXL : Hid ((runL firstL L k).length = 5) := hXW.1
      have hld : ∀ W, Ext wr.drew W → (loadVar 24 ⟨gA, 64 * k, none⟩).run Try.prog W = .ok (.agg (ints .u8 ((L.drop (64 * k)).take 64)).toArray) W := fun W hW =>
        loadVar_at W gA (64 * k) _ hbl (fun j x hx => by
          rw [List.getElem?_take] at hx
          split at hx
          · rw [List.getElem?_drop] at hx
            exact (hW.cell (p := ⟨gA, 64 * k + j, none⟩) hgl).trans (HC.out _ x hx)
          · cases hx)
      have HLD := Lib.hid hld
      generalize hX' : runL firstL L (k + 1) = X' at *
      have HX' := Box.mk hX'
      clear hX'
      generalize runL firstL L k = X at *
      generalize (L.drop (64 * k)).take 64 = blk at *
      have hi5 : (Try.prog.info? 23).map (·.size) = some (ints .u32 X).toArray.size := by rw [show (ints .u32 X).toArray.size = 5 by simpa [ints] using HXL.out]; kernel_rfl
      have hi5' : (Try.prog.info? 23).map (·.size) = some (ints .u32 X').toArray.size := by rw [show (ints .u32 X').toArray.size = 5 by simpa [ints] using HNW.out]; kernel_rfl
      have hol : (ints .u32 X).toArray.size = (ints .u32 X').toArray.size := by rw [show (ints .u32 X').toArray.size = 5 by simpa [ints] using HNW.out]; simpa [ints] using HXL.out
      have HI5 := Lib.hid hi5
      have HI5' := Lib.hid hi5'
      have HOL := Lib.hid hol
      have hsl : ∀ W, (Instr.slice 28 (.slice (some ⟨gA, 64 * k, none⟩) (64 * (m - k)) cc) none (some (.int .i64 64)) none).run Try.prog W = .ok (.slice (some ⟨gA, 64 * k, none⟩) 64 cc) W := fun W => by
        rw [run_slice_h W 28 _ (64 * (m - k)) cc (by kernel_rfl) .i64 64 (by omega) (by omega), size_u8s]
        simp [Result.andThen, sliced, add_mk, show cc ≠ 0 by omega]
      have hs2 : ∃ A3, (∀ W, (Instr.slice 28 (.slice (some ⟨gA, 64 * k, none⟩) (64 * (m - k)) cc) (some (.int .i64 64)) none none).run Try.prog W = .ok (.slice A3 (64 * (m - (k + 1))) (cc - 64)) W) ∧ (k + 1 < m → A3 = some ⟨gA, 64 * (k + 1), none⟩) := by
        refine ⟨if cc = 64 then some ⟨gA, 64 * k, none⟩ else some ⟨gA, 64 * k + 64, none⟩, fun W => ?_, fun h => by rw [if_neg (by omega), show 64 * (k + 1) = 64 * k + 64 by omega]⟩
        rw [run_slice_l W 28 _ (64 * (m - k)) cc (by kernel_rfl) .i64 64 (by omega) (by omega), size_u8s]
        have e1 : 64 * (m - k) - 64 = 64 * (m - (k + 1)) := by omega
        by_cases h : cc = 64
        · simp [Result.andThen, sliced, h, e1]
        · simp [Result.andThen, sliced, h, e1, add_mk]
      obtain ⟨A3, hs2, hA3⟩ := hs2
      have HS2 := Lib.hid hs2
      have HSL := Lib.hid hsl
      clear hXW hbl hb8 hnext hld hi5 hi5' hol hs2 hsl
      go_wp2_with fail
      refine wp_region_typed_tail 6 rfl (by kernel_rfl) (by kernel_rfl) (by kernel_rfl) ?_
      refine tw_ldrow (g := g5) (cs := (ints .u32 X).toArray) (t := 23) (fr := (0, 0)) rfl rfl (fun W hW => (show RowAt wr.drew g5 23 .u32 X from H5.out).ext hW) Try.underlying23 HI5.out (wd_none rfl) ?_
      refine tw_move (.inl (.slice (some ⟨gA, 64 * k, none⟩) (64 * (m - k)) cc)) (stable_is _) (.inl rfl) rfl (wd_none rfl) ?_
      refine tw_one (s := 30) (c := .slice (some ⟨gA, 64 * k, none⟩) (64 * (m - k)) cc) (.slice (some ⟨gA, 64 * k, none⟩) 64 cc) (by decide) rfl (wd_none rfl) (fun ρ W h1 h2 => by
        have h3 := HSL.out W
        have h4 := run_sliceAt_slice (P := Try.prog) W 28 (.slice (some ⟨gA, 64 * k, none⟩) (64 * (m - k)) cc) none (some (.int .i64 64)) none (by kernel_rfl)
        rw [h3] at h4
        simp only [execOp, h1, h2, Option.map_none, Option.map_some, Sem.run_bind, h4, Result.andThen_ok, Sem.run_pure]) ?_
      refine tw_one (s := 31) (c := .slice (some ⟨gA, 64 * k, none⟩) 64 cc) (.pointer (some ⟨gA, 64 * k, none⟩)) (by decide) rfl (wd_none rfl) (fun ρ W h1 h2 => by
        simp only [execOp, h1, Instr.arrayAt, Sem.run_bind, run_underlying Try.underlying24, Result.andThen_ok, Sem.run_pure]
        rfl) ?_
      refine tw_pure (.agg (ints .u8 blk).toArray) (wd_none rfl) (fun α W hW hs => by
        have h1 : α.tmps.getD 32 undef = .pointer (some ⟨gA, 64 * k, none⟩) := hs 32 (by decide)
        simp only [execOp, Act.eval, h1, Instr.loadAt, Instr.sureAddr, Sem.run_bind, Sem.run_pure, Result.andThen_ok, HLD.out W hW]) ?_
      refine tw_fnB #[.agg (ints .u32 X).toArray, .agg (ints .u8 blk).toArray] (.agg (ints .u32 X').toArray) rfl (fun W => by go_simp) rfl (wd_none rfl) (fun W _ => HBLK.out W) ?_
      dsimp only [wpT, List.reverse, List.reverseAux, FinT, SlT, List.take, List.drop]
      intro W2 hW2 _
      simp only [Act.put, List.setIfInBounds_toArray, List.set_cons_zero, List.set_cons_succ]
      have h52 : RowAt W2 g5 23 .u32 X := (show RowAt wr.drew g5 23 .u32 X from H5.out).ext hW2
      have h53 : RowAt (W2.setRow g5 (ints .u32 X').toArray) g5 23 .u32 X' := setRow_heap W2 g5 _ _ _ _ h52
      have HF2 : Hid (RowAt (W2.setRow g5 (ints .u32 X').toArray) w.heap.size 43 .u8 (List.replicate 20 0)) := (setRow_other W2 g5 w.heap.size _ (by omega)).trans ((show RowAt wr.drew w.heap.size 43 .u8 (List.replicate 20 0) from H2.out).ext hW2)
      have HFC : Hid (∀ (j : Nat) x, L[j]? = some x → (W2.setRow g5 (ints .u32 X').toArray).cell? ⟨gA, j, none⟩ = some (.int .u8 x)) := fun j x hx => by
        have h1 : W2.cell? ⟨gA, j, none⟩ = some (.int .u8 x) := (hW2.cell (p := ⟨gA, j, none⟩) hgl).trans (HC.out j x hx)
        rw [← h1]
        exact World.cell?_of_block (setRow_other W2 g5 gA _ hne52)
      have HFB := Lib.hid (below_setRow (HB.out.drew.trans (Below.mono hW2 hsk)) (show w.heap.size ≤ g5 by omega) (ints .u32 X').toArray)
      have hgl2 : gA < (W2.setRow g5 (ints .u32 X').toArray).heap.size := by
        rw [size_setRow]
        exact Nat.lt_of_lt_of_le hgl hW2.size
      have H53 := Lib.hid h53
      refine wpList_store_row rfl 23 _ _ rfl g5 (ints .u32 X').toArray rfl rfl _ _ h52 HI5'.out HOL.out (ints_all_one _ _) ?_
      clear h52 h53 hW2
      have hs2 := HS2.out
      go_wp2
      exact ⟨⟨k + 1, A3, cc - 64, by omega, rfl, by omega, hA3, HFC.out, hgl2, by rw [HX'.out]; exact H53.out, HF2.out, HFB.out⟩, by simp [lenV]; omega⟩
    · obtain rfl : k = m := by omega
      have hm0 : 64 * (k - k) = 0 := by omega
      have hXW : W5 (runL firstL L k) := runL_w5 k _ _ first_w5
      generalize runL firstL L k = X at *
      have HXW := Lib.hid hXW
      have hbl := bytesL_length X
      rw [hXW.1] at hbl
      have HBL := Lib.hid hbl
      rw [hm0]
      clear hm0 hXW hbl hA2 hcc
      go_wp2_with fail
      refine wp_region_typed_tail 3 rfl (by kernel_rfl) (by kernel_rfl) (by kernel_rfl) ?_
      refine tw_one (s := 2) (c := .pointer (some ⟨w.heap.size, 0, none⟩)) (.slice (some ⟨w.heap.size, 0, none⟩) 20 20) (by decide) rfl (wd_none rfl) (fun ρ W h1 h2 => by simp only [execOp, h1]; go_simp) ?_
      refine tw_val (SlT .u32 X) (stable_sl _ _) (wd_none rfl) (fun α W hW hs => by
        have h1 : α.tmps.getD 5 undef = .pointer (some ⟨g5, 0, none⟩) := hs 5 (by decide)
        have h5 := (show RowAt wr.drew g5 23 .u32 X from H5.out).ext hW
        refine ⟨.slice (some ⟨g5, 0, none⟩) 5 5, W, ?_, Ext.refl _, some ⟨g5, 0, none⟩, 5, by rw [HXW.out.1], ?_⟩
        · simp only [execOp, Act.eval, h1]
          go_simp
        · refine ⟨by simp [ints], fun _ => ⟨g5, 0, rfl, h5.lt, fun j u hu => ?_⟩⟩
          obtain ⟨x, hx, rfl⟩ := ints_get hu
          rw [Nat.zero_add]
          exact h5.cell hx) ?_
      refine tw_call (SlT .u8 (bytesL X)) (stable_sl _ _) (wd_none rfl) (fun α W hW hs => ?_) ?_
      · obtain ⟨Ax, cx, ex, hx⟩ := hs 38 (by decide)
        refine ⟨38, #[.slice Ax X.length cx], by simp only [execOp, resolve, Act.eval]; go_simp, ?_⟩
        refine (bytes_any _ _ _ _ X W (by rw [HXW.out.1]; omega) (Nat.le_refl _) HXW.out.2 hx).mono ?_
        rintro e w' ⟨v, rfl, hown, hbw⟩
        obtain ⟨Av, cv, rfl⟩ := own_form hown
        exact ⟨_, rfl, hbw, Av, cv, by rw [bytesL_length], by rw [bytesL_length]; exact Rd.of_own hown⟩
      dsimp only [wpT, List.reverse, List.reverseAux, FinT, SlT, List.take, List.drop]
      intro v38 v39 W2 hW2 hT
      obtain ⟨_, A9, c9, rfl, hr9⟩ := hT
      simp only [Act.put, List.setIfInBounds_toArray, List.set_cons_zero, List.set_cons_succ]
      rw [HBL.out] at hr9
      have h22 : RowAt W2 w.heap.size 43 .u8 (List.replicate 20 0) := (show RowAt wr.drew w.heap.size 43 .u8 (List.replicate 20 0) from H2.out).ext hW2
      obtain ⟨W3, hcp, h23, hk3⟩ := copy_arr (T := 28) (e := 5) (ty := 3) W2 w.heap.size 43 .u8 20 20 A9 c9 (bytesL X) (List.replicate 20 0) Try.underlying28 (by kernel_rfl) h22 hr9 HBL.out (by simp) (by omega) (by omega)
      rw [show bytesL X ++ (List.replicate 20 (0 : Int)).drop 20 = bytesL X by simp] at h23
      have HB3 := Lib.hid (hk3 _ _ (HB.out.drew.trans (Below.mono hW2 hsk)) (Nat.le_refl _))
      have hsz : (Try.prog.info? 43).map (·.size) = some (ints .u8 (bytesL X)).toArray.size := by rw [show (ints .u8 (bytesL X)).toArray.size = 20 by simpa [ints] using HBL.out]; kernel_rfl
      have hrow := setRow_heap W3 w.heap.size _ (ints .u8 (bytesL X)).toArray _ _ h23
      have HSZ := Lib.hid hsz
      have HROW := Lib.hid hrow
      have H23 := Lib.hid h23
      rw [HBL.out]
      clear h22 hk3 hr9 hW2 hsz hrow h23
      generalize bytesL X = Z at *
      go_wp2_with (first
        | (refine wpList_load_row rfl 43 (.tmp 2) rfl w.heap.size rfl _ _ (0, 0) _ H23.out Try.underlying43 rfl HSZ.out ?_)
        | (refine wpList_store_row rfl 43 (.tmp 2) (.tmp 41) rfl w.heap.size (ints .u8 Z).toArray rfl rfl _ _ H23.out HSZ.out rfl (ints_all_one _ _) ?_))
      exact bodyPost_ret (v := .tuple #[.agg (ints .u8 Z).toArray, .int .i64 0])
        (results_cell_tmp (fn := Try.f31) (p := 2) (s := 3) (ty := 43) rfl _ _ w.heap.size _ _ _ _ rfl rfl HROW.out Try.underlying43 HSZ.out) rfl
        ⟨by rw [HS.out.1, HDIG.out], below_setRow HB3.out (Nat.le_refl _) _⟩
end Go.Proofs.Ytonblhannoinfaa
