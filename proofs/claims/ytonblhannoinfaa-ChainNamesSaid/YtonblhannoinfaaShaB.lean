/- Layer 3 (sha): a block's schedule, the program's. -/
import Derived.Test.YtonblhannoinfaaShaA
import Derived.IntWalk
namespace Go.Proofs.Ytonblhannoinfaa
open Go.RowKit
/-- an array's cells read as integers -/
def ArrOf (k : IntKind) (l : List Int) (cs : Array Value) : Prop := cs.toList = ints k l
theorem ArrOf.get {k : IntKind} {l : List Int} {cs : Array Value} (h : ArrOf k l cs) {j : Nat} {x : Int} (hx : l[j]? = some x) : cs[j]? = some (.int k x) := by
  unfold ArrOf at h
  rw [← Array.getElem?_toList, h]
  simp [ints, hx]
theorem ArrOf.size {k : IntKind} {l : List Int} {cs : Array Value} (h : ArrOf k l cs) : cs.size = l.length := by
  unfold ArrOf at h
  rw [← Array.length_toList, h]
  simp [ints]
theorem arrOf_mk (k : IntKind) (l : List Int) : ArrOf k l (ints k l).toArray := rfl
theorem ArrOf.eq {k : IntKind} {l : List Int} {cs : Array Value} (h : ArrOf k l cs) : cs = (ints k l).toArray := by
  unfold ArrOf at h
  rw [← h, Array.toArray_toList]
theorem rd_arr {k : IntKind} {l : List Int} {cs : Array Value} (h : ArrOf k l cs) (w : World) (t : TypeId) (n : Nat) (hn : l.length = n) : Rd (w.alloc (.cells cs t)) (w.heap.size + 1) 1 (some ⟨w.heap.size, 0, none⟩) n (ints k l) := by
  have := Rd.new w t cs (s := 1) (n := n) (by rw [h.size, hn, Nat.mul_one])
  unfold ArrOf at h
  rwa [h] at this
theorem zero80 : Try.zeroCells78 = (ints .u32 (List.replicate 80 0)).toArray := by kernel_rfl
/-- a row of an array in memory -/
def RowAt (w : World) (g : Nat) (t : TypeId) (k : IntKind) (l : List Int) : Prop := w.heap[g]? = some (.cells (ints k l).toArray t (0, 0))
theorem RowAt.cell {w : World} {g : Nat} {t : TypeId} {k : IntKind} {l : List Int} (h : RowAt w g t k l) {j : Nat} {x : Int} (hx : l[j]? = some x) : w.cell? ⟨g, j, none⟩ = some (.int k x) := by
  rw [cell_of_row w g j _ t (0, 0) h]
  simp [ints, hx]
theorem RowAt.frozen {w : World} {g : Nat} {t : TypeId} {k : IntKind} {l : List Int} (h : RowAt w g t k l) (j : Nat) : w.frozen? ⟨g, j, none⟩ = false := frozen_of_row w g j _ t h
theorem RowAt.lt {w : World} {g : Nat} {t : TypeId} {k : IntKind} {l : List Int} (h : RowAt w g t k l) : g < w.heap.size := by
  rcases Nat.lt_or_ge g w.heap.size with h' | h'
  · exact h'
  · unfold RowAt at h
    rw [Array.getElem?_eq_none h'] at h
    cases h
theorem RowAt.ext {w w' : World} {g : Nat} {t : TypeId} {k : IntKind} {l : List Int} (h : RowAt w g t k l) (hx : Ext w w') : RowAt w' g t k l := (hx.block g h.lt).trans h
theorem RowAt.set {w : World} {g : Nat} {t : TypeId} {k : IntKind} {l : List Int} (h : RowAt w g t k l) (j : Nat) (x : Int) : RowAt (w.setCell ⟨g, j, none⟩ (.int k x)) g t k (l.set j x) := by
  unfold RowAt at h ⊢
  rw [heap_setCell_same w g j _ t _ h]
  congr 1
  simp [ints, List.map_set]
section
variable {ops : Array Oper} {w0 : World} {Fin : List Ty → Prop} {rest : List Oper} {E : Env} {Ts : List Ty} {o : Oper}
theorem tw_idx80 {s t : Tmp} {g j : Nat} (hop : o.op = .indexAddr 78 (.tmp s) (.tmp t)) (hE : E s = .inl (.pointer (some ⟨g, 0, none⟩))) (hE' : E t = .inl (.int .i64 (j : Int))) (hj : j < 80) (hw : Wd ops o E true)
    (hr : wpT Try.prog ops w0 Fin rest (E.put o.dst (.inl (.pointer (some ⟨g, j, none⟩)))) (.inl (.pointer (some ⟨g, j, none⟩)) :: Ts)) : wpT Try.prog ops w0 Fin (o :: rest) E Ts :=
  tw_two (s := s) (t := t) (.pointer (some ⟨g, j, none⟩)) (looks_of (x := .tmp s) (by rw [hop]; simp [Op.operands]) rfl) (looks_of (x := .tmp t) (by rw [hop]; simp [Op.operands]) rfl) hE hE' hw (fun ρ W h1 h2 h3 => by
    have hj' : (j : Int) < 80 := by omega
    unfold execOp
    simp only [hop, h1, h2]
    go_simp) hr
theorem tw_sub {s : Tmp} {c : Int} {i j : Nat} (hop : o.op = .binOp .sub 3 (.tmp s) (.const (.int .i64 c)) 3) (hE : E s = .inl (.int .i64 (i : Int))) (hj : (i : Int) - c = j) (hi : i ≤ 1000000000) (hc : 0 ≤ c) (hw : Wd ops o E true)
    (hr : wpT Try.prog ops w0 Fin rest (E.put o.dst (.inl (.int .i64 (j : Int)))) (.inl (.int .i64 (j : Int)) :: Ts)) : wpT Try.prog ops w0 Fin (o :: rest) E Ts :=
  tw_one (s := s) (.int .i64 (j : Int)) (looks_of (x := .tmp s) (by rw [hop]; simp [Op.operands]) rfl) hE hw (fun ρ W h1 h2 => by
    have hwr : IntKind.i64.wrap (j : Int) = j := IntWalk.i64_in _ (by omega)
    rw [← hj] at hwr
    unfold execOp
    simp only [hop, h1, h2]
    go_simp
    simpa [hj] using hwr) hr
end
theorem copy_arr {T e ty : TypeId} (w : World) (g : Nat) (t : TypeId) (k : IntKind) (n m : Nat) (A : Option Addr) (c : Nat) (L zs : List Int) (hu : Try.prog.underlying T = some (.slice e)) (hs : (Try.prog.info? e).map (·.size) = some 1)
    (hz : RowAt w g t k zs) {B : Nat} (hr : Rd w B 1 A n (ints k L)) (hL : L.length = n) (hm : zs.length = m) (hn : n ≤ m) (h0 : 0 < n) :
    ∃ w2, (Builtin.copy_ #[T, T] ty #[.slice (some ⟨g, 0, none⟩) m m, .slice A n c]).run Try.prog w = .ok (.int .i64 n) w2 ∧ RowAt w2 g t k (L ++ zs.drop n) ∧ ∀ B0 w0, Below B0 w0 w → B0 ≤ g → Below B0 w0 w2 := by
  obtain ⟨bk, off, rfl, _, hc⟩ := hr.2 h0
  have hrun := run_copy_row (P := Try.prog) w T T ty e g 0 m m ⟨bk, off, none⟩ n c (ints k zs).toArray t (ints k L) hu hs hz (by simp only [ints, List.length_map, hL]; exact (Nat.min_eq_left hn).symm) (fun j v hv => by rw [add_mk]; exact hc j v hv) (by simp [ints, hL, hm]; omega) ints_one
  have e1 : goInt (ints k L).length = .int .i64 n := by simp [ints, hL, goInt]
  have e2 : (List.take 0 (ints k zs).toArray.toList ++ ints k L ++ List.drop (0 + (ints k L).length) (ints k zs).toArray.toList) = ints k (L ++ zs.drop n) := by simp [ints, hL, List.map_drop]
  rw [e1, e2] at hrun
  exact ⟨_, hrun, setRow_heap w g _ _ t _ hz, fun B0 w0 h hB => below_setRow h hB _⟩
set_option maxHeartbeats 1000000 in
set_option maxRecDepth 10000 in
theorem sched_any (cs : Array Value) (b : List Int) (hcs : ArrOf .u8 b cs) (hb : Bytes8 b) (hl : b.length = 64) (w : World) :
    Calls Try.prog 51 #[.agg cs] w fun e w' => ∃ ws, e = .returned (.agg ws) ∧ ArrOf .u32 (sched (wordsL b 16) 64) ws ∧ Below w.heap.size w w' := by
  have hL : (wordsL b 16).length = 16 := wordsL_length b 16
  have hLw : W32L (wordsL b 16) := wordsL_w32 hb 16
  have hrd := (rd_arr hcs w 24 64 hl).alloc (by simp) (.cells Try.zeroCells78 78)
  have hz : RowAt ((w.alloc (.cells cs 24)).alloc (.cells Try.zeroCells78 78)) (w.heap.size + 1) 78 .u32 (List.replicate 80 0) := by
    unfold RowAt
    rw [← zero80]
    exact heap_alloc2_new w _ _
  have HZ := Lib.hid hz
  have HL := Lib.hid hL
  have HLW := Lib.hid hLw
  have HB0 := Lib.hid (((Below.refl w.heap.size w).alloc (Nat.le_refl _) (.cells cs 24)).alloc (by simp) (.cells Try.zeroCells78 78))
  clear hz hL hLw
  go_enter Try.func51, Try.ntmps51
  go_wp2_with fail
  go_step3
  go_wp2_with fail
  refine (of_ok _ 64 64 16 (w.heap.size + 1) b _ (by omega) (by omega) (by simp) hb hrd).mono ?_
  rintro e w1 ⟨v, rfl, hown, hb1⟩
  obtain ⟨A, c, rfl⟩ := own_form hown
  have hr1 := Rd.of_own hown
  have hz1 := HZ.out.ext hb1
  have HB1 := Lib.hid (HB0.out.trans (hb1.mono (by simp; omega)))
  clear hown hrd hb1
  generalize hLL : wordsL b 16 = L at *
  have HLL := Lib.hid hLL
  clear hLL
  obtain ⟨w2, hcp, hz2, hb2⟩ := copy_arr (T := 54) (e := 22) (ty := 3) w1 (w.heap.size + 1) 78 .u32 16 80 A c L (List.replicate 80 0) Try.underlying54 (by kernel_rfl) hz1 hr1 HL.out (by simp) (by omega) (by omega)
  have hrow : L ++ (List.replicate 80 0).drop 16 = rowS L 0 := by rw [rowS_low L (by omega)]; simp
  rw [hrow] at hz2
  have HB2 := Lib.hid (hb2 _ _ HB1.out (by omega))
  have hs2 := HB2.out.size
  clear hz1 hb2 hrow hr1
  go_wp2
  go_step3
  go_wp2
  clear hcp
  have HZ2 := Lib.hid hz2
  clear hz2
  go_loopw [14] (fun i wr => ∃ k : Nat, k ≤ 80 ∧ i = .int .i64 k ∧ RowAt wr (w.heap.size + 1) 78 .u32 (rowS L k) ∧ Below w.heap.size w wr) (fun i _ => 80 - (intOf i).toNat)
  case atStart => exact ⟨0, by omega, rfl, HZ2.out, HB2.out⟩
  case round =>
    obtain ⟨k, hk, rfl, hz, hbk⟩ := hrel
    have HBK := Lib.hid hbk
    have HZK := Lib.hid hz
    have hsk := hbk.size
    clear hbk hz
    by_cases h80 : k < 80
    · by_cases h16 : k < 16
      · go_wp2
        go_roundw
        case rel => exact ⟨k + 1, by omega, by go_num, by rw [rowS_low L (by omega), ← rowS_low L (show k ≤ 16 by omega)]; exact HZK.out, HBK.out⟩
        case measure => simp [intOf]; omega
      · obtain ⟨j, rfl⟩ : ∃ j, k = j + 16 := ⟨k - 16, by omega⟩
        have hget : ∀ i, i < j + 16 → ∀ W, Ext wr.drew W → W.cell? ⟨w.heap.size + 1, i, none⟩ = some (.int .u32 (at_ (sched L j) i)) := fun i hi W hW => by
          have h1 := (show RowAt wr.drew (w.heap.size + 1) 78 .u32 (rowS L (j + 16)) from HZK.out).ext hW
          exact h1.cell (by rw [rowS_get HL.out (by omega)]; rfl)
        have G3 := Lib.hid (hget (j + 13) (by omega))
        have G8 := Lib.hid (hget (j + 8) (by omega))
        have G14 := Lib.hid (hget (j + 2) (by omega))
        have G16 := Lib.hid (hget j (by omega))
        have hnx : bits .xor .u32 (oddI (at_ (sched L j) (j + 13)) (at_ (sched L j) (j + 8)) (at_ (sched L j) (j + 2))) (at_ (sched L j) j) = bits .xor .u32 (oddI (at_ (sched L j) ((sched L j).length - 3)) (at_ (sched L j) ((sched L j).length - 8)) (at_ (sched L j) ((sched L j).length - 14))) (at_ (sched L j) ((sched L j).length - 16)) := by
          rw [sched_length, HL.out]
          rw [show 16 + j - 3 = j + 13 by omega, show 16 + j - 8 = j + 8 by omega, show 16 + j - 14 = j + 2 by omega, show 16 + j - 16 = j by omega]
        have HNX : Hid (turnI (bits .xor .u32 (oddI (at_ (sched L j) (j + 13)) (at_ (sched L j) (j + 8)) (at_ (sched L j) (j + 2))) (at_ (sched L j) j)) 1 = nextW (sched L j)) := by show _ = _; rw [hnx]; rfl
        clear hget hnx
        generalize at_ (sched L j) (j + 13) = x3 at *
        generalize at_ (sched L j) (j + 8) = x8 at *
        generalize at_ (sched L j) (j + 2) = x14 at *
        generalize at_ (sched L j) j = x16 at *
        go_wp2_with fail
        refine wp_region_typed_tail 21 rfl (by kernel_rfl) (by kernel_rfl) (by kernel_rfl) ?_
        refine tw_move (.inl (.int .i64 ((j + 16 : Nat) : Int))) (stable_is _) (.inl rfl) rfl (wd_none rfl) ?_
        refine tw_move (.inl (.int .i64 ((j + 16 : Nat) : Int))) (stable_is _) (.inl rfl) rfl (wd_none rfl) ?_
        refine tw_sub (i := j + 16) (j := j + 13) rfl rfl (by omega) (by omega) (by omega) (wd_none rfl) ?_
        refine tw_idx80 (g := w.heap.size + 1) (j := j + 13) rfl rfl rfl (by omega) (wd_none rfl) ?_
        refine tw_ld (x := x3) rfl rfl G3.out (wd_none rfl) ?_
        refine tw_move (.inl (.int .i64 ((j + 16 : Nat) : Int))) (stable_is _) (.inl rfl) rfl (wd_none rfl) ?_
        refine tw_sub (i := j + 16) (j := j + 8) rfl rfl (by omega) (by omega) (by omega) (wd_none rfl) ?_
        refine tw_idx80 (g := w.heap.size + 1) (j := j + 8) rfl rfl rfl (by omega) (wd_none rfl) ?_
        refine tw_ld (x := x8) rfl rfl G8.out (wd_none rfl) ?_
        refine tw_move (.inl (.int .i64 ((j + 16 : Nat) : Int))) (stable_is _) (.inl rfl) rfl (wd_none rfl) ?_
        refine tw_sub (i := j + 16) (j := j + 2) rfl rfl (by omega) (by omega) (by omega) (wd_none rfl) ?_
        refine tw_idx80 (g := w.heap.size + 1) (j := j + 2) rfl rfl rfl (by omega) (wd_none rfl) ?_
        refine tw_ld (x := x14) rfl rfl G14.out (wd_none rfl) ?_
        refine tw_fnB #[.int .u32 x3, .int .u32 x8, .int .u32 x14] (.int .u32 (oddI x3 x8 x14)) rfl (fun W => by go_simp) rfl (wd_none rfl) (fun W _ => odd_any x3 x8 x14 W) ?_
        refine tw_move (.inl (.int .i64 ((j + 16 : Nat) : Int))) (stable_is _) (.inl rfl) rfl (wd_none rfl) ?_
        refine tw_sub (i := j + 16) (j := j) rfl rfl (by omega) (by omega) (by omega) (wd_none rfl) ?_
        refine tw_idx80 (g := w.heap.size + 1) (j := j) rfl rfl rfl (by omega) (wd_none rfl) ?_
        refine tw_ld (x := x16) rfl rfl G16.out (wd_none rfl) ?_
        refine tw_two (s := 34) (t := 38) (.int .u32 (bits .xor .u32 (oddI x3 x8 x14) x16)) (by decide) (by decide) rfl rfl (wd_none rfl) (fun ρ W h1 h2 h3 => by simp only [execOp, h1, h2]; go_simp) ?_
        refine tw_fn0 #[.int .u32 (bits .xor .u32 (oddI x3 x8 x14) x16), .int .i64 1] (.int .u32 (turnI (bits .xor .u32 (oddI x3 x8 x14) x16) 1)) rfl (fun W => by go_simp) rfl (wd_none rfl) (fun W _ => turn_any _ 1 W) ?_
        refine tw_idx80 (g := w.heap.size + 1) (j := j + 16) rfl rfl rfl (by omega) (wd_none rfl) ?_
        dsimp only [wpT, List.reverse, List.reverseAux, FinT, SlT, List.take, List.drop]
        intro W2 hW2 _
        simp only [Act.put, List.setIfInBounds_toArray, List.set_cons_zero, List.set_cons_succ]
        rw [HNX.out]
        have hz3 : RowAt W2 (w.heap.size + 1) 78 .u32 (rowS L (j + 16)) := (show RowAt wr.drew (w.heap.size + 1) 78 .u32 (rowS L (j + 16)) from HZK.out).ext hW2
        have hb3 := HBK.out.drew.trans (Below.mono hW2 hsk)
        have hfr : W2.frozen? ⟨w.heap.size + 1, j + 16, none⟩ = false := hz3.frozen _
        have hcl : W2.cell? ⟨w.heap.size + 1, j + 16, none⟩ = some (.int .u32 0) := hz3.cell (by
          unfold rowS
          rw [List.getElem?_append_right (by rw [sched_length, HL.out]; omega), sched_length, HL.out, List.getElem?_replicate, if_pos (by omega)])
        have hst := hz3.set (j + 16) (nextW (sched L j))
        rw [show (rowS L (j + 16)).set (j + 16) (nextW (sched L j)) = rowS L (j + 16 + 1) from rowS_set HL.out (k := j + 16) (by omega) (by omega)] at hst
        have HST := Lib.hid hst
        have HB3 := Lib.hid hb3
        clear hst hb3 hz3 hW2
        go_wp2
        exact ⟨⟨j + 16 + 1, by omega, by congr 1, HST.out, HB3.out.setCell (by show w.heap.size ≤ w.heap.size + 1; omega) _⟩, by simp [intOf]; omega⟩
    · have hke : k = 80 := by omega
      subst hke
      have hz80 := HZK.out
      rw [rowS_end] at hz80
      have hlen : (ints .u32 (sched L 64)).toArray.size = 80 := by simp [ints, sched_length, HL.out]
      have hsz : (Try.prog.info? 78).map (·.size) = some (ints .u32 (sched L 64)).toArray.size := by rw [hlen]; kernel_rfl
      have hone : (ints .u32 (sched L 64)).toArray.all (·.oneCell') = true := by simp [ints, Value.oneCell']
      have hrow := setRow_heap wr (w.heap.size + 1) _ (ints .u32 (sched L 64)).toArray _ _ hz80
      have HZ80 := Lib.hid hz80
      have HSZ := Lib.hid hsz
      have HONE := Lib.hid hone
      have HROW := Lib.hid hrow
      clear hz80 hlen hsz hone hrow
      go_wp2_with (first
        | (refine wpList_load_row rfl 78 (.tmp 2) rfl (w.heap.size + 1) rfl _ _ (0, 0) _ HZ80.out Try.underlying78 rfl HSZ.out ?_)
        | (refine wpList_store_row rfl 78 (.tmp 2) (.tmp 43) rfl (w.heap.size + 1) (ints .u32 (sched L 64)).toArray rfl rfl _ _ HZ80.out HSZ.out rfl HONE.out ?_))
      rw [Exit.noGoto_ret]
      exact bodyPost_ret (v := .agg (ints .u32 (sched L 64)).toArray)
        (results_cell_row (fn := Try.f51) (p := 2) (ty := 78) rfl _ _ (w.heap.size + 1) _ _ _ _ rfl HROW.out Try.underlying78 rfl HSZ.out) rfl
        ⟨_, rfl, by rw [HLL.out]; exact arrOf_mk _ _, below_setRow HBK.out (by omega) _⟩
end Go.Proofs.Ytonblhannoinfaa
