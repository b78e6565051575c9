/- The walk of ShaBlocks. -/
import Derived.Test.YtonblhannoinfaaArr
namespace Go.Proofs.Ytonblhannoinfaa
open Go.RowKit
set_option maxHeartbeats 400000 in
set_option maxRecDepth 10000 in
theorem first_any (w : World) : Calls Try.prog 20 #[] w fun e w' => e = .returned (.agg (ints .u32 firstL).toArray) ∧ Below w.heap.size w w' := by
  go_enter Try.func20, Try.ntmps20
  go_wp2
  exact bodyPost_ret (v := .agg (ints .u32 firstL).toArray) (by simp [results, Try.results20, go_sem, firstL, ints]) rfl ⟨rfl, (Below.refl _ w).alloc (Nat.le_refl _) _⟩
set_option maxHeartbeats 400000 in
set_option maxRecDepth 10000 in
theorem reffirst_any (w : World) : Calls Try.prog 21 #[] w fun e w' => e = .returned (.agg (ints .u32 firstL).toArray) ∧ Below w.heap.size w w' := by
  go_enter Try.func21, Try.ntmps21
  go_wp2
  exact bodyPost_ret (v := .agg (ints .u32 firstL).toArray) (by simp [results, Try.results21, go_sem, firstL, ints]) rfl ⟨rfl, (Below.refl _ w).alloc (Nat.le_refl _) _⟩
theorem eql5 (l : List Int) (hl : l.length = 5) (W : World) : (binOp .eql 23 (.agg (ints .u32 l).toArray) (.agg (ints .u32 l).toArray)).run Try.prog W = .ok (.bool true) W := by
  obtain ⟨i0, hi, _⟩ := info_parts info_u32
  exact eql_arr .u32 l Try.underlying23 hi (by kernel_rfl) Try.underlying22 Try.isAgg22 hl W
section
variable {ops : Array Oper} {w0 : World} {Fin : List Ty → Prop} {rest : List Oper} {E : Env} {Ts : List Ty} {o : Oper}
theorem tw_eql5 {s t : Tmp} (l : List Int) (hl : l.length = 5) (hop : o.op = .binOp .eql 23 (.tmp s) (.tmp t) 23) (hE : E s = .inl (.agg (ints .u32 l).toArray)) (hE' : E t = .inl (.agg (ints .u32 l).toArray)) (hw : Wd ops o E true)
    (hr : wpT Try.prog ops w0 Fin rest (E.put o.dst (.inl (.bool true))) (.inl (.bool true) :: Ts)) : wpT Try.prog ops w0 Fin (o :: rest) E Ts :=
  tw_two (s := s) (t := t) (.bool true) (looks_of (x := .tmp s) (by rw [hop]; simp [Op.operands]) rfl) (looks_of (x := .tmp t) (by rw [hop]; simp [Op.operands]) rfl) hE hE' hw (fun ρ W h1 h2 h3 => by
    have he := eql5 l hl W
    have hg := fun (x y : Operand) (xs ys : Array Value) => run_eqGuard_agg W .eql 23 x y xs ys (P := Try.prog) (by kernel_rfl)
    unfold execOp
    simp only [hop, h1, h2, Sem.run_bind, hg, Result.andThen_ok, he, Sem.run_pure]) hr
end
set_option maxHeartbeats 1000000 in
set_option maxRecDepth 10000 in
theorem shaBlocks_walk (hs : Array Value) (h : List Int) (cs : Array Value) (b : List Int) (w : World) (hhs : ArrOf .u32 h hs) (hh : W5 h) (hcs : ArrOf .u8 b cs) (hb : Bytes8 b) (hl : b.length = 64) :
    Calls Try.prog 3 #[.agg hs, .agg cs] w fun e w' => e = .returned (.bool true) ∧ Below w.heap.size w w' := by
  have hi5 : (Try.prog.info? 23).map (·.size) = some hs.size := by rw [hhs.size, hh.1]; kernel_rfl
  have hi64 : (Try.prog.info? 24).map (·.size) = some cs.size := by rw [hcs.size, hl]; kernel_rfl
  have HI5 := Lib.hid hi5
  have HI64 := Lib.hid hi64
  have HBL : Hid ((blockL h b).length = 5) := (blockL_w5 hh b).1
  clear hi5 hi64
  go_enter Try.func3, Try.ntmps3
  go_wp2_with fail
  have h0 : ∀ W, Ext ((w.alloc (.cells hs 23)).alloc (.cells cs 24)).drew W → W.heap[w.heap.size]? = some (.cells hs 23 (0, 0)) := fun W hW =>
    (hW.block w.heap.size (by show _ < (World.heap _).size; simp; omega)).trans (heap_alloc2_old w _ _)
  have h1 : ∀ W, Ext ((w.alloc (.cells hs 23)).alloc (.cells cs 24)).drew W → W.heap[w.heap.size + 1]? = some (.cells cs 24 (0, 0)) := fun W hW =>
    (hW.block (w.heap.size + 1) (by show _ < (World.heap _).size; simp)).trans (heap_alloc2_new w _ _)
  refine wp_region_typed rfl (by kernel_rfl) (by kernel_rfl) ?_
  refine tw_ldrow (g := w.heap.size) (cs := hs) (t := 23) (fr := (0, 0)) rfl rfl h0 Try.underlying23 HI5.out (wd_none rfl) ?_
  refine tw_ldrow (g := w.heap.size + 1) (cs := cs) (t := 24) (fr := (0, 0)) rfl rfl h1 Try.underlying24 HI64.out (wd_none rfl) ?_
  refine tw_fnB #[.agg hs, .agg cs] (.agg (ints .u32 (blockL h b)).toArray) rfl (fun W => by go_simp) rfl (wd_none rfl) (fun W _ => block_any h b hs cs hhs hh hcs hb hl W) ?_
  refine tw_ldrow (g := w.heap.size) (cs := hs) (t := 23) (fr := (0, 0)) rfl rfl h0 Try.underlying23 HI5.out (wd_none rfl) ?_
  refine tw_ldrow (g := w.heap.size + 1) (cs := cs) (t := 24) (fr := (0, 0)) rfl rfl h1 Try.underlying24 HI64.out (wd_none rfl) ?_
  refine tw_fnB #[.agg hs, .agg cs] (.agg (ints .u32 (blockL h b)).toArray) rfl (fun W => by go_simp) rfl (wd_none rfl) (fun W _ => refblock_any h b hs cs hhs hh hcs hb hl W) ?_
  refine tw_eql5 (blockL h b) HBL.out rfl rfl rfl (wd_none rfl) ?_
  refine tw_move (.inl (.bool true)) (stable_is _) (.inl rfl) rfl (wd_none rfl) ?_
  refine tw_fnB #[] (.agg (ints .u32 firstL).toArray) rfl (fun W => by go_simp) rfl (wd_yes rfl rfl rfl) (fun W _ => first_any W) ?_
  refine tw_fnB #[] (.agg (ints .u32 firstL).toArray) rfl (fun W => by go_simp) rfl (wd_yes rfl rfl rfl) (fun W _ => reffirst_any W) ?_
  refine tw_eql5 firstL rfl rfl rfl rfl (wd_yes rfl rfl rfl) ?_
  refine tw_two (s := 12) (t := 15) (.bool true) (by decide) (by decide) rfl rfl (wd_none rfl) (fun ρ W h1 h2 h3 => by simp only [execOp, h1, h2, h3]; go_simp) ?_
  refine tw_move (.inl (.bool true)) (stable_is _) (.inr rfl) rfl (wd_none rfl) ?_
  dsimp only [wpT, List.reverse, List.reverseAux, FinT]
  intro W hW _
  simp only [Act.put, List.setIfInBounds_toArray, List.set_cons_zero, List.set_cons_succ]
  have HW : Hid (Below w.heap.size w W) := (((Below.refl w.heap.size w).alloc (Nat.le_refl _) (.cells hs 23)).alloc (by simp) (.cells cs 24)).drew.trans (Below.mono hW (by show _ ≤ (World.heap _).size; simp; omega))
  clear h0 h1 hW
  generalize (ints .u32 (blockL h b)).toArray = B at *
  go_wp2
  go_ret
  exact ⟨rfl, HW.out⟩
end Go.Proofs.Ytonblhannoinfaa
