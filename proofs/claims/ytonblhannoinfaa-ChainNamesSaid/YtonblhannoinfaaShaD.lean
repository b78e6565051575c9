/- Layer 3 (sha): a block's state, the program's. -/
import Derived.Test.YtonblhannoinfaaShaC
import Derived.Laws.EntriesVeiled
import Derived.Deep.Cut
namespace Go.Proofs.Ytonblhannoinfaa
open Go.RowKit
def fnV (f : FuncId) : Value := .func (.func f) #[] #[]
def partsA : Array Value := #[fnV 69, .int .u32 1518500249, fnV 70, .int .u32 1859775393, fnV 71, .int .u32 2400959708, fnV 70, .int .u32 3395469782]
set_option maxHeartbeats 400000 in
set_option maxRecDepth 10000 in
theorem parts_any (w : World) : Calls Try.prog 50 #[] w fun e w' => e = .returned (.agg partsA) ∧ Below w.heap.size w w' := by
  go_enter Try.func50, Try.ntmps50
  go_wp2
  exact bodyPost_ret (v := .agg partsA) (by simp [results, Try.results50, go_sem, partsA, fnV]) rfl ⟨rfl, (Below.refl _ w).alloc (Nat.le_refl _) _⟩
theorem ints_all_one (k : IntKind) (l : List Int) : (ints k l).toArray.all (·.oneCell') = true := by simp [ints, Value.oneCell']
/-- a fact that no tactic looks into -/
structure Box (p : Prop) : Prop where
  out : p
/-- the function that a round calls, and its constant -/
theorem part_of (k q : Nat) (h : q = k / 20 ∧ k < 80) : ∃ f : FuncId, partsA[q * 2]? = some (fnV f) ∧ partsA[q * 2 + 1]? = some (.int .u32 (conI k)) ∧
    (∀ (args : Array Value) (W : World), (callFunc f args).run Try.prog W = .ok (.enter f args) W) ∧ ∀ x y z W, Calls Try.prog f #[.int .u32 x, .int .u32 y, .int .u32 z] W fun e w' => e = .returned (.int .u32 (putI k x y z)) ∧ Below W.heap.size W w' := by
  obtain ⟨rfl, h80⟩ := h
  have hc : k / 20 = 0 ∨ k / 20 = 1 ∨ k / 20 = 2 ∨ k / 20 = 3 := by omega
  rcases hc with h | h | h | h
  · refine ⟨69, by rw [h]; rfl, by rw [h]; unfold conI; rw [if_pos (by omega)]; rfl, fun args W => by go_simp, fun x y z W => ?_⟩
    refine (choose_any x y z W).mono ?_
    rintro e w' ⟨rfl, rfl⟩
    exact ⟨by unfold putI; rw [if_pos (by omega)], Below.refl _ _⟩
  · refine ⟨70, by rw [h]; rfl, by rw [h]; unfold conI; rw [if_neg (by omega), if_pos (by omega)]; rfl, fun args W => by go_simp, fun x y z W => ?_⟩
    refine (odd_any x y z W).mono ?_
    rintro e w' ⟨rfl, hb⟩
    exact ⟨by unfold putI; rw [if_neg (by omega), if_pos (by omega)], hb⟩
  · refine ⟨71, by rw [h]; rfl, by rw [h]; unfold conI; rw [if_neg (by omega), if_neg (by omega), if_pos (by omega)]; rfl, fun args W => by go_simp, fun x y z W => ?_⟩
    refine (most_any x y z W).mono ?_
    rintro e w' ⟨rfl, rfl⟩
    exact ⟨by unfold putI; rw [if_neg (by omega), if_neg (by omega), if_pos (by omega)], Below.refl _ _⟩
  · refine ⟨70, by rw [h]; rfl, by rw [h]; unfold conI; rw [if_neg (by omega), if_neg (by omega), if_neg (by omega)]; rfl, fun args W => by go_simp, fun x y z W => ?_⟩
    refine (odd_any x y z W).mono ?_
    rintro e w' ⟨rfl, hb⟩
    exact ⟨by unfold putI; rw [if_neg (by omega), if_neg (by omega), if_neg (by omega)], hb⟩
theorem run_index80 (ws : Array Value) (k : Nat) (x : Int) (hk : k < 80) (hx : ws[k]? = some (.int .u32 x)) (W : World) : (Instr.index 78 (.agg ws) (.int .i64 (k : Int))).run Try.prog W = .ok (.int .u32 x) W := by
  have h1 : (0 : Int) ≤ (k : Int) ∧ (k : Int) < 80 := by omega
  simp [Instr.index, asIntOf, run_underlying Try.underlying78, h1, Try.sizeOf22, Try.isAgg22, hx, Go.part, go_sem]
  intro h
  omega
/-- a row lies in the heap -/
theorem RowLt {w : World} {g : Nat} {cs : Array Value} {t : TypeId} {fr : Nat × Nat} (h : w.heap[g]? = some (.cells cs t fr)) : g < w.heap.size := by
  rcases Nat.lt_or_ge g w.heap.size with h' | h'
  · exact h'
  · rw [Array.getElem?_eq_none h'] at h; cases h
/-- a piece of code, and what comes behind it once -/
theorem wp_via {P : Program} {c : Code} {Q : Exit → Act → World → Prop} {a : Act} {w : World} (R : Act → Act → World → Prop) (h1 : c.wp P (fun e a' w' => e = .normal ∧ R a a' w') a w) (h2 : ∀ a' w', R a a' w' → Q .normal a' w') : c.wp P Q a w :=
  Go.wp_mono h1 (by rintro e a' w' ⟨rfl, h⟩; exact h2 a' w' h)
section
variable {ops : Array Oper} {w0 : World} {Fin : List Ty → Prop} {rest : List Oper} {E : Env} {Ts : List Ty} {o : Oper}
theorem tw_idx5 {s t : Tmp} {g j : Nat} (hop : o.op = .indexAddr 23 (.tmp s) (.tmp t)) (hE : E s = .inl (.pointer (some ⟨g, 0, none⟩))) (hE' : E t = .inl (.int .i64 (j : Int))) (hj : j < 5) (hw : Wd ops o E true)
    (hr : wpT Try.prog ops w0 Fin rest (E.put o.dst (.inl (.pointer (some ⟨g, j, none⟩)))) (.inl (.pointer (some ⟨g, j, none⟩)) :: Ts)) : wpT Try.prog ops w0 Fin (o :: rest) E Ts :=
  tw_two (s := s) (t := t) (.pointer (some ⟨g, j, none⟩)) (looks_of (x := .tmp s) (by rw [hop]; simp [Op.operands]) rfl) (looks_of (x := .tmp t) (by rw [hop]; simp [Op.operands]) rfl) hE hE' hw (fun ρ W h1 h2 h3 => by
    have hj' : (j : Int) < 5 := by omega
    unfold execOp
    simp only [hop, h1, h2]
    go_simp) hr
theorem tw_add {s t : Tmp} {x y : Int} (hop : o.op = .binOp .add 22 (.tmp s) (.tmp t) 22) (hE : E s = .inl (.int .u32 x)) (hE' : E t = .inl (.int .u32 y)) (hw : Wd ops o E true)
    (hr : wpT Try.prog ops w0 Fin rest (E.put o.dst (.inl (.int .u32 (addI x y)))) (.inl (.int .u32 (addI x y)) :: Ts)) : wpT Try.prog ops w0 Fin (o :: rest) E Ts :=
  tw_two (s := s) (t := t) (.int .u32 (addI x y)) (looks_of (x := .tmp s) (by rw [hop]; simp [Op.operands]) rfl) (looks_of (x := .tmp t) (by rw [hop]; simp [Op.operands]) rfl) hE hE' hw (fun ρ W h1 h2 h3 => by
    unfold execOp
    simp only [hop, h1, h2]
    go_simp
    try (first | rfl | (simp [addI, IntKind.wrap_u32']))) hr
end
/-- a new variable of zeros -/
def NewT (t : TypeId) (zs : Array Value) (base : Nat) : Ty := .inr fun v w => ∃ g, v = .pointer (some ⟨g, 0, none⟩) ∧ w.heap[g]? = some (.cells zs t (0, 0)) ∧ base ≤ g
theorem stable_new (t : TypeId) (zs : Array Value) (base : Nat) : Stable (NewT t zs base) := by
  rintro v w w' ⟨g, rfl, h, hb⟩ hx
  have hlt : g < w.heap.size := by
    rcases Nat.lt_or_ge g w.heap.size with h' | h'
    · exact h'
    · rw [Array.getElem?_eq_none h'] at h; cases h
  exact ⟨g, rfl, (hx.block g hlt).trans h, hb⟩
def zero8 : Array Value := #[.nilFunc, .int .u32 0, .nilFunc, .int .u32 0, .nilFunc, .int .u32 0, .nilFunc, .int .u32 0]
def zero5 : Array Value := #[.int .u32 0, .int .u32 0, .int .u32 0, .int .u32 0, .int .u32 0]
section
variable {ops : Array Oper} {w0 : World} {Fin : List Ty → Prop} {rest : List Oper} {E : Env} {Ts : List Ty} {o : Oper}
/-- a load of a whole array -/
theorem tw_ldrow {s : Tmp} {g : Nat} {t ty : TypeId} {cs : Array Value} {fr : Nat × Nat} {m : Nat} {te : TypeId} (hop : o.op = .load ty (.tmp s)) (hE : E s = .inl (.pointer (some ⟨g, 0, none⟩))) (hg : ∀ W, Ext w0 W → W.heap[g]? = some (.cells cs t fr))
    (hu : Try.prog.underlying ty = some (.array m te)) (hi : (Try.prog.info? ty).map (·.size) = some cs.size) (hw : Wd ops o E true)
    (hr : wpT Try.prog ops w0 Fin rest (E.put o.dst (.inl (.agg cs))) (.inl (.agg cs) :: Ts)) : wpT Try.prog ops w0 Fin (o :: rest) E Ts :=
  tw_pure (.agg cs) hw (fun a W hW hs => by
    have hv := hs s (looks_of (x := .tmp s) (by rw [hop]; simp [Op.operands]) rfl)
    rw [hE] at hv
    have h1 : a.tmps.getD s undef = .pointer (some ⟨g, 0, none⟩) := hv
    unfold execOp
    simp only [hop, Act.eval, h1, Instr.loadAt, Instr.sureAddr, Sem.run_bind, Sem.run_pure, Result.andThen_ok, run_loadVar_row W g t ty cs fr (.array m te) (hg W hW) hu rfl hi]) hr
theorem tw_alloc8 (hop : o.op = .alloc 76) (hw : Wd ops o E true)
    (hr : wpT Try.prog ops w0 Fin rest (E.put o.dst (NewT 76 zero8 w0.heap.size)) (NewT 76 zero8 w0.heap.size :: Ts)) : wpT Try.prog ops w0 Fin (o :: rest) E Ts :=
  tw_val _ (stable_new _ _ _) hw (fun a W hW hs => by
    refine ⟨.pointer (some ⟨W.heap.size, 0, none⟩), W.alloc (.cells zero8 76), ?_, (Below.refl _ W).alloc (Nat.le_refl _) _, W.heap.size, rfl, heap_alloc_new W _, hW.size⟩
    unfold execOp
    simp only [hop]
    go_simp
    rfl) hr
theorem tw_alloc5 (hop : o.op = .alloc 23) (hw : Wd ops o E true)
    (hr : wpT Try.prog ops w0 Fin rest (E.put o.dst (NewT 23 zero5 w0.heap.size)) (NewT 23 zero5 w0.heap.size :: Ts)) : wpT Try.prog ops w0 Fin (o :: rest) E Ts :=
  tw_val _ (stable_new _ _ _) hw (fun a W hW hs => by
    refine ⟨.pointer (some ⟨W.heap.size, 0, none⟩), W.alloc (.cells zero5 23), ?_, (Below.refl _ W).alloc (Nat.le_refl _) _, W.heap.size, rfl, heap_alloc_new W _, hW.size⟩
    unfold execOp
    simp only [hop]
    go_simp
    rfl) hr
end
set_option maxHeartbeats 1000000 in
set_option maxRecDepth 10000 in
theorem block_any (h b : List Int) (hs cs : Array Value) (hhs : ArrOf .u32 h hs) (hh : W5 h) (hcs : ArrOf .u8 b cs) (hb : Bytes8 b) (hl : b.length = 64) (w : World) :
    Calls Try.prog 18 #[.agg hs, .agg cs] w fun e w' => e = .returned (.agg (ints .u32 (blockL h b)).toArray) ∧ Below w.heap.size w w' := by
  obtain rfl : hs = (ints .u32 h).toArray := hhs.eq
  clear hhs
  have hsz5 : (ints .u32 h).toArray.size = 5 := by simp [ints, hh.1]
  have hi5 : (Try.prog.info? 23).map (·.size) = some (ints .u32 h).toArray.size := by rw [hsz5]; kernel_rfl
  have HI5 := Lib.hid hi5
  have H5S : Hid (zero5.size = (ints .u32 h).toArray.size) := by show _ = _; rw [hsz5]; rfl
  have HONE : Hid ((ints .u32 h).toArray.all (·.oneCell') = true) := by show _ = _; simp [ints, Value.oneCell']
  have HI64 : Hid ((Try.prog.info? 24).map (·.size) = some cs.size) := by show _ = _; rw [hcs.size, hl]; kernel_rfl
  clear hsz5 hi5
  go_enter Try.func18, Try.ntmps18
  go_wp2
  refine wp_via (fun a0 a w' => ∃ g5 g6, a = ((((a0.put (some 12) (.agg partsA)).put (some 13) (.agg (ints .u32 h).toArray)).put (some 5) (.pointer (some ⟨g5, 0, none⟩))).put (some 6) (.pointer (some ⟨g6, 0, none⟩))) ∧
    w'.heap[g5]? = some (.cells partsA 76 (0, 0)) ∧ w'.heap[g6]? = some (.cells (ints .u32 h).toArray 23 (0, 0)) ∧ w.heap.size + 3 ≤ g5 ∧ w.heap.size + 3 ≤ g6 ∧
    Below (w.heap.size + 3) (((w.alloc (.cells (ints .u32 h).toArray 23)).alloc (.cells cs 24)).alloc (.cells zero5 23)) w') ?_ ?_
  · refine wp_region_typed_lazy 4 1 rfl (by kernel_rfl) (by kernel_rfl) (by kernel_rfl) ?_
    refine tw_fnB #[] (.agg partsA) rfl (fun W => by go_simp) rfl (wd_none rfl) (fun W _ => parts_any W) ?_
    have hrow : ∀ W, Ext (((w.alloc (.cells (ints .u32 h).toArray 23)).alloc (.cells cs 24)).alloc (.cells zero5 23)).drew W → W.heap[w.heap.size]? = some (.cells (ints .u32 h).toArray 23 (0, 0)) := fun W hW => by
      refine (hW.block w.heap.size (by show _ < (World.heap _).size; simp; omega)).trans ?_
      exact (heap_alloc_old _ _ (by simp; omega)).trans (heap_alloc2_old w _ _)
    refine tw_ldrow (g := w.heap.size) (cs := (ints .u32 h).toArray) (t := 23) (fr := (0, 0)) rfl rfl hrow Try.underlying23 HI5.out (wd_none rfl) ?_
    refine tw_alloc8 rfl (wd_none rfl) ?_
    refine tw_alloc5 rfl (wd_none rfl) ?_
    dsimp only [wpT, List.reverse, List.reverseAux, FinT, NewT, List.take, List.drop, List.eraseIdx, List.append]
    refine ⟨?_, ?_⟩
    · intro v5 v6 W hW hT
      obtain ⟨⟨_, g5, rfl, h5, hb5⟩, g6, rfl, h6, hb6⟩ := hT
      have hne : g5 ≠ g6 := by
        rintro rfl
        rw [h5] at h6
        simp at h6
      simp at hb5 hb6
      simp only [Act.put, List.setIfInBounds_toArray, List.set_cons_zero, List.set_cons_succ]
      have hw0 := hrow W hW
      have k5 := setRow_heap W g5 _ partsA _ _ h5
      have k6 : (W.setRow g5 partsA).heap[g6]? = some (.cells zero5 23 (0, 0)) := (setRow_other W g5 g6 _ hne.symm).trans h6
      have m5 : ((W.setRow g5 partsA).setRow g6 (ints .u32 h).toArray).heap[g5]? = some (.cells partsA 76 (0, 0)) := (setRow_other _ g6 g5 _ hne).trans k5
      have m6 := setRow_heap (W.setRow g5 partsA) g6 _ (ints .u32 h).toArray _ _ k6
      refine wpList_store_row rfl 76 (.tmp 5) (.tmp 12) rfl g5 partsA rfl rfl _ _ h5 (by kernel_rfl) rfl (by simp [partsA, fnV, Value.oneCell']) ?_
      refine wpList_store_row rfl 23 (.tmp 6) (.tmp 13) rfl g6 (ints .u32 h).toArray rfl rfl _ _ k6 HI5.out H5S.out HONE.out ?_
      exact ⟨rfl, g5, g6, rfl, m5, m6, by omega, by omega, below_setRow (below_setRow ((Below.refl (w.heap.size + 3) (((w.alloc (.cells (ints .u32 h).toArray 23)).alloc (.cells cs 24)).alloc (.cells zero5 23))).drew.trans (Below.mono hW (show w.heap.size + 3 ≤ _ by simp))) (by omega) _) (by omega) _⟩
    · intro v5 v6 W hW hT
      obtain ⟨⟨_, g5, rfl, h5, hb5⟩, g6, rfl, h6, hb6⟩ := hT
      have hne : g5 ≠ g6 := by
        rintro rfl
        rw [h5] at h6
        simp at h6
      simp at hb5 hb6
      simp only [Act.put, List.setIfInBounds_toArray, List.set_cons_zero, List.set_cons_succ]
      have hw0 := hrow W hW
      have k5 := setRow_heap W g5 _ partsA _ _ h5
      have k0 : (W.setRow g5 partsA).heap[w.heap.size]? = some (.cells (ints .u32 h).toArray 23 (0, 0)) := (setRow_other W g5 w.heap.size _ (by omega)).trans hw0
      have k6 : (W.setRow g5 partsA).heap[g6]? = some (.cells zero5 23 (0, 0)) := (setRow_other W g5 g6 _ hne.symm).trans h6
      have m5 : ((W.setRow g5 partsA).setRow g6 (ints .u32 h).toArray).heap[g5]? = some (.cells partsA 76 (0, 0)) := (setRow_other _ g6 g5 _ hne).trans k5
      have m6 := setRow_heap (W.setRow g5 partsA) g6 _ (ints .u32 h).toArray _ _ k6
      refine wpList_store_row rfl 76 (.tmp 5) (.tmp 12) rfl g5 partsA rfl rfl _ _ h5 (by kernel_rfl) rfl (by simp [partsA, fnV, Value.oneCell']) ?_
      refine wpList_load_row rfl 23 (.tmp 2) rfl w.heap.size rfl _ (ints .u32 h).toArray (0, 0) _ k0 Try.underlying23 rfl HI5.out ?_
      refine wpList_store_row rfl 23 (.tmp 6) (.tmp 13) rfl g6 (ints .u32 h).toArray rfl rfl _ _ k6 HI5.out H5S.out HONE.out ?_
      exact ⟨rfl, g5, g6, rfl, m5, m6, by omega, by omega, below_setRow (below_setRow ((Below.refl (w.heap.size + 3) (((w.alloc (.cells (ints .u32 h).toArray 23)).alloc (.cells cs 24)).alloc (.cells zero5 23))).drew.trans (Below.mono hW (show w.heap.size + 3 ≤ _ by simp))) (by omega) _) (by omega) _⟩
  · rintro a' w' ⟨g5, g6, rfl, h5, h6, hg5, hg6, hb'⟩
    simp only [Act.put, List.setIfInBounds_toArray, List.set_cons_zero, List.set_cons_succ]
    have hcr : w'.heap[w.heap.size + 1]? = some (.cells cs 24 (0, 0)) := by
      refine (hb'.block (w.heap.size + 1) (by omega)).trans ?_
      exact (heap_alloc_old _ _ (by simp)).trans (heap_alloc2_new w _ _)
    have h0r : w'.heap[w.heap.size]? = some (.cells (ints .u32 h).toArray 23 (0, 0)) := by
      refine (hb'.block w.heap.size (by omega)).trans ?_
      exact (heap_alloc_old _ _ (by simp; omega)).trans (heap_alloc2_old w _ _)
    have h2r : w'.heap[w.heap.size + 2]? = some (.cells zero5 23 (0, 0)) := by
      refine (hb'.block (w.heap.size + 2) (by omega)).trans ?_
      have := heap_alloc_new ((w.alloc (.cells (ints .u32 h).toArray 23)).alloc (.cells cs 24)) (.cells zero5 23)
      simpa using this
    have HBB : Hid (Below w.heap.size w w') := ((((Below.refl w.heap.size w).alloc (Nat.le_refl _) (.cells (ints .u32 h).toArray 23)).alloc (by simp) (.cells cs 24)).alloc (by simp; omega) (.cells zero5 23)).trans (hb'.mono (by omega))
    have H5 := Lib.hid h5
    have H6 := Lib.hid h6
    have HCR := Lib.hid hcr
    have H0R := Lib.hid h0r
    have H2R := Lib.hid h2r
    have hsb := hb'.size
    simp at hsb
    clear h5 h6 hcr h0r h2r hb'
    go_wp2_with (refine wpList_load_row rfl 24 (.tmp 3) rfl (w.heap.size + 1) rfl _ cs (0, 0) _ HCR.out Try.underlying24 rfl HI64.out ?_)
    refine (sched_any cs b hcs hb hl w').mono ?_
    rintro e w2 ⟨ws, rfl, hws, hb2⟩
    have hlt5 : g5 < w'.heap.size := RowLt H5.out
    have hlt6 : g6 < w'.heap.size := RowLt H6.out
    have K5 := Lib.hid ((hb2.block g5 hlt5).trans H5.out)
    have K6 : Hid (RowAt w2 g6 23 .u32 h) := (hb2.block g6 hlt6).trans H6.out
    have K0 : Hid (RowAt w2 w.heap.size 23 .u32 h) := (hb2.block w.heap.size (by omega)).trans H0R.out
    have K2 := Lib.hid ((hb2.block (w.heap.size + 2) (by omega)).trans H2R.out)
    have KB := Lib.hid (HBB.out.trans (hb2.mono (by omega)))
    have hne : g5 ≠ g6 := by
      rintro rfl
      have h1 := H5.out
      rw [H6.out] at h1
      simp at h1
    have hSl : (sched (wordsL b 16) 64).length = 80 := by rw [sched_length, wordsL_length]
    have hSw : W32L (sched (wordsL b 16) 64) := sched_w32 (wordsL_w32 hb 16) 64
    generalize hS : sched (wordsL b 16) 64 = S at *
    have HS := Box.mk hS
    have HSL := Lib.hid hSl
    have HSW := Lib.hid hSw
    have HWS := Lib.hid hws
    have HH := Lib.hid hh
    have hws80 : ws.size = 80 := by rw [hws.size, hSl]
    have HW80 := Lib.hid hws80
    clear hb2 H5 H6 HCR H0R H2R HBB hcs hb hl HI64 hS hSl hSw hws hh hws80 hlt5 hlt6
    go_wp2
    go_loopw [16] (fun i wr => ∃ k : Nat, k ≤ 80 ∧ i = .int .i64 k ∧ RowAt wr g6 23 .u32 (roundsI S h k) ∧ wr.heap[g5]? = some (.cells partsA 76 (0, 0)) ∧ RowAt wr w.heap.size 23 .u32 h ∧ wr.heap[w.heap.size + 2]? = some (.cells zero5 23 (0, 0)) ∧ Below w.heap.size w wr) (fun i _ => 80 - (intOf i).toNat)
    case atStart => exact ⟨0, by omega, rfl, K6.out, K5.out, K0.out, K2.out, KB.out⟩
    case round =>
      obtain ⟨k, hk, rfl, h6, h5, h0, h2, hbk⟩ := hrel
      have HB := Lib.hid hbk
      have H0 := Lib.hid h0
      have H2 := Lib.hid h2
      have H6 := Lib.hid h6
      have H5 := Lib.hid h5
      have hsk := hbk.size
      clear hbk h0 h2 h6 h5
      by_cases h80 : k < 80
      · have hix : ∀ W, (Instr.index 78 (.agg ws) (.int .i64 (k : Int))).run Try.prog W = .ok (.int .u32 (at_ S k)) W := run_index80 ws k (at_ S k) h80 (HWS.out.get (by
          unfold at_
          rw [List.getD_eq_getElem?_getD, List.getElem?_eq_getElem (show k < S.length by rw [HSL.out]; exact h80)]
          rfl))
        generalize hx : at_ S k = x at *
        have HXK := Box.mk hx
        clear hx
        obtain ⟨q, hq⟩ : ∃ q : Nat, q = k / 20 := ⟨_, rfl⟩
        have hq4 : q < 4 := by omega
        have hqi : (k : Int) / 20 = (q : Int) := by omega
        obtain ⟨f, hf1, hf2, hf3⟩ := part_of k q (by omega)
        have c1 : wr.cell? ⟨g5, q * 2, none⟩ = some (.func (.func f) #[] #[]) := (cell_of_row wr g5 _ _ _ (0, 0) H5.out).trans hf1
        have c2 : wr.cell? ⟨g5, q * 2 + 1, none⟩ = some (.int .u32 (conI k)) := (cell_of_row wr g5 _ _ _ (0, 0) H5.out).trans hf2
        obtain ⟨hf3, hf4⟩ := hf3
        have HF3 := Lib.hid hf3
        have HF4 := Lib.hid hf4
        clear hq hf1 hf2 hf3 hf4
        go_upto_region 6 with (fail)
        clear c1 c2 hix
        obtain ⟨x0, x1, x2, x3, x4, hX, b0, b1, b2, b3, b4⟩ := (roundsI_w5 HH.out S k).form
        have HX := Box.mk hX
        have H6' := H6.out
        rw [hX] at H6'
        have hc6 : ∀ W, Ext (wr.alloc (.cells #[.func (.func f) #[] #[], .int .u32 (conI k)] 75)).drew W → ∀ j, W.cell? ⟨g6, j, none⟩ = (#[.int .u32 x0, .int .u32 x1, .int .u32 x2, .int .u32 x3, .int .u32 x4] : Array Value)[j]? := fun W hW j => by
          have hlt := RowAt.lt H6'
          have h1 : W.heap[g6]? = wr.heap[g6]? := (hW.block g6 (by show _ < (World.heap _).size; simp; omega)).trans (heap_alloc_old _ _ hlt)
          exact cell_of_row W g6 j _ _ (0, 0) (h1.trans H6')
        have hc9 : ∀ W, Ext (wr.alloc (.cells #[.func (.func f) #[] #[], .int .u32 (conI k)] 75)).drew W → ∀ j, W.cell? ⟨wr.heap.size, j, none⟩ = (#[.func (.func f) #[] #[], .int .u32 (conI k)] : Array Value)[j]? := fun W hW j => by
          have h1 : W.heap[wr.heap.size]? = _ := (hW.block wr.heap.size (by show _ < (World.heap _).size; simp)).trans (heap_alloc_new wr _)
          exact cell_of_row W wr.heap.size j _ _ (0, 0) h1
        refine wp_region_typed rfl (by kernel_rfl) (by kernel_rfl) ?_
        refine tw_one (s := 6) (c := .pointer (some ⟨g6, 0, none⟩)) (.pointer (some ⟨g6, 0, none⟩)) (by decide) rfl (wd_none rfl) (fun ρ W h1 h2 => by simp only [execOp, h1]; go_simp) ?_
        refine tw_ld rfl rfl (fun W hW => hc6 W hW 0) (wd_none rfl) ?_
        refine tw_fn0 #[.int .u32 x0, .int .i64 5] (.int .u32 (turnI x0 5)) rfl (fun W => by go_simp) rfl (wd_none rfl) (fun W _ => turn_any x0 5 W) ?_
        refine tw_one (s := 9) (c := .pointer (some ⟨wr.heap.size, 0, none⟩)) (.pointer (some ⟨wr.heap.size, 0, none⟩)) (by decide) rfl (wd_none rfl) (fun ρ W h1 h2 => by simp only [execOp, h1]; go_simp) ?_
        refine tw_pure (.func (.func f) #[] #[]) (wd_none rfl) (fun α W hW hs => by
          have h1 : α.tmps.getD 27 undef = .pointer (some ⟨wr.heap.size, 0, none⟩) := hs 27 (by decide)
          have h2 : W.cell? ⟨wr.heap.size, 0, none⟩ = some (.func (.func f) #[] #[]) := hc9 W hW 0
          simp only [execOp, Act.eval, h1]
          go_simp) ?_
        refine tw_one (s := 6) (c := .pointer (some ⟨g6, 0, none⟩)) (.pointer (some ⟨g6, 1, none⟩)) (by decide) rfl (wd_none rfl) (fun ρ W h1 h2 => by simp only [execOp, h1]; go_simp) ?_
        refine tw_ld rfl rfl (fun W hW => hc6 W hW 1) (wd_none rfl) ?_
        refine tw_one (s := 6) (c := .pointer (some ⟨g6, 0, none⟩)) (.pointer (some ⟨g6, 2, none⟩)) (by decide) rfl (wd_none rfl) (fun ρ W h1 h2 => by simp only [execOp, h1]; go_simp) ?_
        refine tw_ld rfl rfl (fun W hW => hc6 W hW 2) (wd_none rfl) ?_
        refine tw_one (s := 6) (c := .pointer (some ⟨g6, 0, none⟩)) (.pointer (some ⟨g6, 3, none⟩)) (by decide) rfl (wd_none rfl) (fun ρ W h1 h2 => by simp only [execOp, h1]; go_simp) ?_
        refine tw_ld rfl rfl (fun W hW => hc6 W hW 3) (wd_none rfl) ?_
        refine tw_call (.inl (.int .u32 (putI k x1 x2 x3))) (stable_is _) (wd_none rfl) (fun α W hW hs => ?_) ?_
        · have e0 : α.tmps.getD 28 undef = .func (.func f) #[] #[] := hs 28 (by decide)
          have e1 : α.tmps.getD 30 undef = .int .u32 x1 := hs 30 (by decide)
          have e2 : α.tmps.getD 32 undef = .int .u32 x2 := hs 32 (by decide)
          have e3 : α.tmps.getD 34 undef = .int .u32 x3 := hs 34 (by decide)
          refine ⟨f, #[.int .u32 x1, .int .u32 x2, .int .u32 x3], ?_, (HF4.out x1 x2 x3 W).mono fun e w' h => ⟨_, h.1, h.2, rfl⟩⟩
          simp only [execOp, resolve, List.map_toArray, List.map_cons, List.map_nil, Act.eval, e0, e1, e2, e3, Deferred.ofValue, Sem.run_bind, Sem.run_pure, Result.andThen_ok, invoke, Array.append_empty, Array.empty_append, HF3.out]
        refine tw_one (s := 6) (c := .pointer (some ⟨g6, 0, none⟩)) (.pointer (some ⟨g6, 4, none⟩)) (by decide) rfl (wd_none rfl) (fun ρ W h1 h2 => by simp only [execOp, h1]; go_simp) ?_
        refine tw_ld rfl rfl (fun W hW => hc6 W hW 4) (wd_none rfl) ?_
        refine tw_one (s := 9) (c := .pointer (some ⟨wr.heap.size, 0, none⟩)) (.pointer (some ⟨wr.heap.size, 1, none⟩)) (by decide) rfl (wd_none rfl) (fun ρ W h1 h2 => by simp only [execOp, h1]; go_simp) ?_
        refine tw_ld rfl rfl (fun W hW => hc9 W hW 1) (wd_none rfl) ?_
        refine tw_move (.inl (.int .u32 x)) (stable_is _) (.inl rfl) rfl (wd_none rfl) ?_
        refine tw_new5 (turnI x0 5) (putI k x1 x2 x3) x4 (conI k) x rfl rfl rfl rfl rfl rfl (wd_none rfl) ?_
        refine tw_fnS [turnI x0 5, putI k x1 x2 x3, x4, conI k, x] (.int .u32 (sumI [turnI x0 5, putI k x1 x2 x3, x4, conI k, x])) rfl (fun args W => by go_simp) rfl (wd_none rfl)
          (fun A c' W hR => sum_any A 5 c' _ [turnI x0 5, putI k x1 x2 x3, x4, conI k, x] W (by omega) hR) ?_
        refine tw_move (.inl (.int .u32 (sumI [turnI x0 5, putI k x1 x2 x3, x4, conI k, x]))) (stable_is _) (.inr rfl) rfl (wd_none rfl) ?_
        dsimp only [wpT, List.reverse, List.reverseAux, FinT, SlT]
        intro v1 W1 hW1 _
        simp only [Act.put, List.setIfInBounds_toArray, List.set_cons_zero, List.set_cons_succ]
        have HE1 : Hid (Ext wr W1) := ((Below.refl wr.heap.size wr).alloc (Nat.le_refl _) (.cells #[.func (.func f) #[] #[], .int .u32 (conI k)] 75)).drew.trans (Below.mono hW1 (show wr.heap.size ≤ _ by simp))
        have h61 := RowAt.ext H6' HE1.out
        have H61 := Lib.hid h61
        generalize hD : sumI [turnI x0 5, putI k x1 x2 x3, x4, conI k, x] = d at *
        have HD := Box.mk hD
        clear hc6 hc9 hW1 H6' h61 hD hX b0 b1 b2 b3 b4
        go_upto_region 7 with (fail)
        have hc7 : ∀ W, Ext W1.drew W → ∀ j, W.cell? ⟨g6, j, none⟩ = (#[.int .u32 x0, .int .u32 x1, .int .u32 x2, .int .u32 x3, .int .u32 x4] : Array Value)[j]? := fun W hW j =>
          cell_of_row W g6 j _ _ (0, 0) ((show RowAt W1.drew g6 23 .u32 [x0, x1, x2, x3, x4] from H61.out).ext hW)
        refine wp_region_typed_tail 11 rfl (by kernel_rfl) (by kernel_rfl) (by kernel_rfl) ?_
        refine tw_move (.inl (.int .u32 d)) (stable_is _) (.inl rfl) rfl (wd_none rfl) ?_
        refine tw_one (s := 6) (c := .pointer (some ⟨g6, 0, none⟩)) (.pointer (some ⟨g6, 0, none⟩)) (by decide) rfl (wd_none rfl) (fun ρ W h1 h2 => by simp only [execOp, h1]; go_simp) ?_
        refine tw_ld rfl rfl (fun W hW => hc7 W hW 0) (wd_none rfl) ?_
        refine tw_one (s := 6) (c := .pointer (some ⟨g6, 0, none⟩)) (.pointer (some ⟨g6, 1, none⟩)) (by decide) rfl (wd_none rfl) (fun ρ W h1 h2 => by simp only [execOp, h1]; go_simp) ?_
        refine tw_ld rfl rfl (fun W hW => hc7 W hW 1) (wd_none rfl) ?_
        refine tw_fn0 #[.int .u32 x1, .int .i64 30] (.int .u32 (turnI x1 30)) rfl (fun W => by go_simp) rfl (wd_none rfl) (fun W _ => turn_any x1 30 W) ?_
        refine tw_one (s := 6) (c := .pointer (some ⟨g6, 0, none⟩)) (.pointer (some ⟨g6, 2, none⟩)) (by decide) rfl (wd_none rfl) (fun ρ W h1 h2 => by simp only [execOp, h1]; go_simp) ?_
        refine tw_ld rfl rfl (fun W hW => hc7 W hW 2) (wd_none rfl) ?_
        refine tw_one (s := 6) (c := .pointer (some ⟨g6, 0, none⟩)) (.pointer (some ⟨g6, 3, none⟩)) (by decide) rfl (wd_none rfl) (fun ρ W h1 h2 => by simp only [execOp, h1]; go_simp) ?_
        refine tw_ld rfl rfl (fun W hW => hc7 W hW 3) (wd_none rfl) ?_
        refine tw_agg5 rfl rfl rfl rfl rfl rfl (wd_none rfl) ?_
        dsimp only [wpT, List.reverse, List.reverseAux, FinT, SlT, List.take, List.drop]
        intro W2 hW2 _
        simp only [Act.put, List.setIfInBounds_toArray, List.set_cons_zero, List.set_cons_succ]
        have h62 : RowAt W2 g6 23 .u32 [x0, x1, x2, x3, x4] := (show RowAt W1.drew g6 23 .u32 [x0, x1, x2, x3, x4] from H61.out).ext hW2
        have HE2 : Hid (Ext wr W2) := HE1.out.drew.trans (Below.mono hW2 HE1.out.size)
        have h63 : RowAt (W2.setRow g6 #[.int .u32 d, .int .u32 x0, .int .u32 (turnI x1 30), .int .u32 x2, .int .u32 x3]) g6 23 .u32 [d, x0, turnI x1 30, x2, x3] := setRow_heap W2 g6 _ _ _ _ h62
        refine wpList_store_row rfl 23 _ _ rfl g6 #[.int .u32 d, .int .u32 x0, .int .u32 (turnI x1 30), .int .u32 x2, .int .u32 x3] rfl rfl _ _ h62 (by kernel_rfl) rfl (by simp [Value.oneCell']) ?_
        have hlt5 := RowLt H5.out
        have HF5 := Lib.hid ((setRow_other W2 g6 g5 #[.int .u32 d, .int .u32 x0, .int .u32 (turnI x1 30), .int .u32 x2, .int .u32 x3] hne).trans ((HE2.out.block g5 hlt5).trans H5.out))
        have HF0 : Hid (RowAt (W2.setRow g6 #[.int .u32 d, .int .u32 x0, .int .u32 (turnI x1 30), .int .u32 x2, .int .u32 x3]) w.heap.size 23 .u32 h) := (setRow_other W2 g6 w.heap.size _ (by omega)).trans ((HE2.out.block w.heap.size H0.out.lt).trans H0.out)
        have HF2 := Lib.hid ((setRow_other W2 g6 (w.heap.size + 2) #[.int .u32 d, .int .u32 x0, .int .u32 (turnI x1 30), .int .u32 x2, .int .u32 x3] (by omega)).trans ((HE2.out.block (w.heap.size + 2) (RowLt H2.out)).trans H2.out))
        have HFB := Lib.hid (below_setRow (HB.out.trans (Below.mono HE2.out hsk)) (show w.heap.size ≤ g6 by omega) #[.int .u32 d, .int .u32 x0, .int .u32 (turnI x1 30), .int .u32 x2, .int .u32 x3])
        have H63 := Lib.hid h63
        clear h62 h63 hc7 hW2 hlt5
        have hnext : roundsI S h (k + 1) = [d, x0, turnI x1 30, x2, x3] := by
          show roundI k (at_ S k) (roundsI S h k) = _
          rw [HX.out, HXK.out]
          show [sumI [turnI x0 5, putI k x1 x2 x3, x4, conI k, x], x0, turnI x1 30, x2, x3] = _
          rw [HD.out]
        have HNX := Box.mk hnext
        clear hnext
        go_wp2
        go_roundw
        case rel => exact ⟨k + 1, by omega, by go_num, by rw [HNX.out]; exact H63.out, HF5.out, HF0.out, HF2.out, HFB.out⟩
        case measure => simp [intOf]; omega
      · have hke : k = 80 := by omega
        subst hke
        have HX6 : Box (roundsI S h 80 = roundsI S h 80) := ⟨rfl⟩
        generalize hX : roundsI S h 80 = X at *
        have HX := Box.mk hX
        have HXW : Hid (W5 X) := by rw [← hX]; exact roundsI_w5 HH.out S 80
        clear hX HX6
        have hX5 : X.length = 5 := HXW.out.1
        have hh5 : h.length = 5 := HH.out.1
        have HX5 := Lib.hid hX5
        have HH5 := Lib.hid hh5
        clear hX5 hh5
        go_wp2
        go_loopw [55] (fun i wr => ∃ k : Nat, k ≤ 5 ∧ i = .int .i64 k ∧ RowAt wr g6 23 .u32 (mixL X h k) ∧ RowAt wr w.heap.size 23 .u32 h ∧ wr.heap[w.heap.size + 2]? = some (.cells zero5 23 (0, 0)) ∧ Below w.heap.size w wr) (fun i _ => 5 - (intOf i).toNat)
        case atStart => exact ⟨0, by omega, rfl, by rw [mixL_zero]; exact H6.out, H0.out, H2.out, HB.out⟩
        case round =>
          obtain ⟨k, hk5, rfl, h6, h0, h2, hbk⟩ := hrel
          clear HB H0 H2 H6 H5 hsk hk h80
          have HB := Lib.hid hbk
          have H0 := Lib.hid h0
          have H2 := Lib.hid h2
          have H6 := Lib.hid h6
          have hsk := hbk.size
          clear hbk h0 h2 h6
          by_cases hlt : k < 5
          · have G6 : Hid (∀ W, Ext wr.drew W → W.cell? ⟨g6, k, none⟩ = some (.int .u32 (at_ X k))) := fun W hW =>
              ((show RowAt wr.drew g6 23 .u32 (mixL X h k) from H6.out).ext hW).cell (mixL_get HX5.out HH5.out hlt)
            have G0 : Hid (∀ W, Ext wr.drew W → W.cell? ⟨w.heap.size, k, none⟩ = some (.int .u32 (at_ h k))) := fun W hW =>
              ((show RowAt wr.drew w.heap.size 23 .u32 h from H0.out).ext hW).cell (at_get (by rw [HH5.out]; exact hlt))
            have hset := mixL_set HX5.out HH5.out hlt
            have HSET := Lib.hid hset
            clear hset
            generalize at_ X k = x at *
            generalize at_ h k = y at *
            go_wp2_with fail
            refine wp_region_typed_tail 8 rfl (by kernel_rfl) (by kernel_rfl) (by kernel_rfl) ?_
            refine tw_move (.inl (.int .i64 (k : Int))) (stable_is _) (.inl rfl) rfl (wd_none rfl) ?_
            refine tw_idx5 (g := g6) (j := k) rfl rfl rfl hlt (wd_none rfl) ?_
            refine tw_ld (x := x) rfl rfl G6.out (wd_none rfl) ?_
            refine tw_move (.inl (.int .i64 (k : Int))) (stable_is _) (.inl rfl) rfl (wd_none rfl) ?_
            refine tw_idx5 (g := w.heap.size) (j := k) rfl rfl rfl hlt (wd_none rfl) ?_
            refine tw_ld (x := y) rfl rfl G0.out (wd_none rfl) ?_
            refine tw_add rfl rfl rfl (wd_none rfl) ?_
            refine tw_idx5 (g := g6) (j := k) rfl rfl rfl hlt (wd_none rfl) ?_
            dsimp only [wpT, List.reverse, List.reverseAux, FinT, SlT, List.take, List.drop]
            intro W2 hW2 _
            simp only [Act.put, List.setIfInBounds_toArray, List.set_cons_zero, List.set_cons_succ]
            have h6 : RowAt W2 g6 23 .u32 (mixL X h k) := (show RowAt wr.drew g6 23 .u32 (mixL X h k) from H6.out).ext hW2
            have h0 : RowAt W2 w.heap.size 23 .u32 h := (show RowAt wr.drew w.heap.size 23 .u32 h from H0.out).ext hW2
            have h2 := (hW2.block (w.heap.size + 2) (RowLt H2.out)).trans H2.out
            have hfr : W2.frozen? ⟨g6, k, none⟩ = false := h6.frozen _
            have hcl : W2.cell? ⟨g6, k, none⟩ = some (.int .u32 x) := G6.out W2 hW2
            have h6s := h6.set k (addI x y)
            rw [HSET.out] at h6s
            have HF6 := Lib.hid h6s
            have HF0 : Hid (RowAt (W2.setCell ⟨g6, k, none⟩ (.int .u32 (addI x y))) w.heap.size 23 .u32 h) := (heap_setCell_other W2 _ w.heap.size _ (by show w.heap.size ≠ g6; omega)).trans h0
            have HF2 := Lib.hid ((heap_setCell_other W2 ⟨g6, k, none⟩ (w.heap.size + 2) (.int .u32 (addI x y)) (by show w.heap.size + 2 ≠ g6; omega)).trans h2)
            have HFB := Lib.hid ((HB.out.drew.trans (Below.mono hW2 hsk)).setCell (p := ⟨g6, k, none⟩) (show w.heap.size ≤ g6 by omega) (.int .u32 (addI x y)))
            clear h6 h0 h2 h6s hW2 G6 G0
            go_wp2
            exact ⟨⟨k + 1, by omega, by go_num, HF6.out, HF0.out, HF2.out, HFB.out⟩, by simp [intOf]; omega⟩
          · have hke : k = 5 := by omega
            subst hke
            have hz := H6.out
            rw [mixL_end HX5.out HH5.out] at hz
            have hzl : (List.zipWith addI X h).length = 5 := by simp [HX5.out, HH5.out]
            have hblk : blockL h b = List.zipWith addI X h := by unfold blockL; rw [HS.out, HX.out]
            have HBLK := Box.mk hblk
            have hsz : (Try.prog.info? 23).map (·.size) = some (ints .u32 (List.zipWith addI X h)).toArray.size := by
              rw [show (ints .u32 (List.zipWith addI X h)).toArray.size = 5 by simpa [ints] using hzl]; kernel_rfl
            have hone : (ints .u32 (List.zipWith addI X h)).toArray.all (·.oneCell') = true := ints_all_one _ _
            have hold : zero5.size = (ints .u32 (List.zipWith addI X h)).toArray.size := by simpa [ints, zero5] using hzl.symm
            have hrow := setRow_heap wr (w.heap.size + 2) _ (ints .u32 (List.zipWith addI X h)).toArray _ _ H2.out
            have HZ := Lib.hid hz
            have HSZ := Lib.hid hsz
            have HON := Lib.hid hone
            have HOL := Lib.hid hold
            have HRW := Lib.hid hrow
            clear hz hzl hblk hsz hone hold hrow HX HS
            generalize List.zipWith addI X h = Z at *
            go_wp2_with (first
              | (refine wpList_load_row rfl 23 (.tmp 6) rfl g6 rfl _ _ (0, 0) _ HZ.out Try.underlying23 rfl HSZ.out ?_)
              | (refine wpList_store_row rfl 23 (.tmp 4) (.tmp 67) rfl (w.heap.size + 2) (ints .u32 Z).toArray rfl rfl _ _ H2.out HSZ.out HOL.out HON.out ?_))
            exact bodyPost_ret (v := .agg (ints .u32 Z).toArray)
              (results_cell_row (fn := Try.f18) (p := 4) (ty := 23) rfl _ _ (w.heap.size + 2) _ _ _ _ rfl HRW.out Try.underlying23 rfl HSZ.out) rfl
              ⟨by rw [HBLK.out], below_setRow HB.out (by omega) _⟩
end Go.Proofs.Ytonblhannoinfaa
