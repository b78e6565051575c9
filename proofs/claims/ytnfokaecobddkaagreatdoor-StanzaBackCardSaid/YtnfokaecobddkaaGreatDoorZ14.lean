/- Part 14 of a proof laid in parts, one behind the other; no condition of its own. -/
import Derived.Test.YtnfokaecobddkaaGreatDoorZ13
import Derived.IntWalk
import Derived.Test.YtnfokaecobddkaaGreatDoorZ04
import Derived.Test.YtnfokaecobddkaaGreatDoorZ10
import Derived.Test.YtnfokaecobddkaaGreatDoorZ01
import Derived.Test.YtnfokaecobddkaaGreatDoorZ07
set_option linter.all false
section
namespace Go.Proofs.YtnfokaecobddkaaGreatDoor
open Go.RowKit
set_option linter.unusedSimpArgs false
set_option linter.unusedVariables false
theorem results_one {P : Program} {fn : Func} {p : Tmp} {ty : TypeId} {fs : Array Field} (h : fn.results = #[.cell p ty]) (tmps : Array Value) (w : World) (g : Nat) (t : TypeId) (cs : Array Value) (fr : Nat × Nat)
    (hp : tmps.getD p undef = .pointer (some ⟨g, 0, none⟩)) (hg : w.heap[g]? = some (.cells cs t fr)) (hu : P.underlying ty = some (.struct fs)) (hi : (P.info? ty).map (·.size) = some cs.size) :
    (results fn tmps).run P w = .ok (.agg cs) w := by
  have hp' : tmps[p]?.getD undef = .pointer (some ⟨g, 0, none⟩) := by simpa using hp
  simp [results, h, hp', asAddr, run_loadVar_row w g t ty cs fr (.struct fs) hg hu rfl hi]
def pairsT (ps : List ByteArray) : Nat → List AttrL
  | 0 => []
  | k + 1 => withA (pairsT ps k) (ps.getD (2 * k) emB) (ps.getD (2 * k + 1) emB)
theorem pairsT_len (ps : List ByteArray) : ∀ k, (pairsT ps k).length ≤ k
  | 0 => Nat.le_refl _
  | k + 1 => Nat.le_trans (withA_len _ _ _) (by have := pairsT_len ps k; omega)
def mkN (space name : ByteArray) (l : List AttrL) : NodeL := ⟨1, space, name, l, emB, 0⟩
def ElemE (space name : ByteArray) (l : List AttrL) (w : World) (e : Ending) (w' : World) : Prop :=
  ∃ A c, e = .returned (encN (mkN space name l) A c) ∧ l.length ≤ c ∧ NewA w.heap.size w'.heap.size w' A l ∧ Below w.heap.size w w'
theorem elemE_mk {space name : ByteArray} {l : List AttrL} {w w' w'' : World} {A : Option Addr} {c : Nat} (h0 : w'' = w') (h1 : l.length ≤ c) (h2 : NewA w.heap.size w''.heap.size w'' A l) (h3 : Below w.heap.size w w'') : ElemE space name l w (.returned (encN (mkN space name l) A c)) w' := by
  subst h0
  exact ⟨A, c, rfl, h1, h2, h3⟩
def nodeC (space name : ByteArray) (v : Value) : Array Value := #[.int .u8 1, .string space, .string name, v, .string ⟨#[]⟩, .int .i64 0]
def zeroC : Array Value := #[.int .u8 0, .string ⟨#[]⟩, .string ⟨#[]⟩, .slice none 0 0, .string ⟨#[]⟩, .int .i64 0]
def SlA1 (a : AttrL) : Ty := .inr fun u W => ∃ g, u = .slice (some ⟨g, 0, none⟩) 1 1 ∧ W.heap[g]? = some (.cells #[.string a.space, .string a.name, .string a.value] 80 (0, 0))
theorem stable_sla1 (a : AttrL) : Stable (SlA1 a) := fun u W W' h hx => by
  obtain ⟨g, h1, h2⟩ := h
  exact ⟨g, h1, heap_ext h2 hx⟩
section
variable {ops : Array Oper} {w0 : World} {Fin : List Ty → Prop} {rest : List Oper} {E : Env} {Ts : List Ty} {o : Oper}
theorem tw_ixS {x y : Operand} {b off n c k : Nat} (hk : k < n) (hop : o.op = .indexAddr 44 x y) (hx : evalE E x = some (.slice (some ⟨b, off, none⟩) n c)) (hy : evalE E y = some (.int .i64 (k : Int))) (hw : Wd ops o E true)
    (hr : wpT Tryz.prog ops w0 Fin rest (E.put o.dst (.inl (.pointer (some ⟨b, off + k, none⟩)))) (.inl (.pointer (some ⟨b, off + k, none⟩)) :: Ts)) : wpT Tryz.prog ops w0 Fin (o :: rest) E Ts :=
  tw_pure _ hw (fun a W hW hs => by
    have h1 : a.eval x = _ := evalE_of hx (by rw [hop]; simp [Op.operands]) hs
    have h2 : a.eval y = _ := evalE_of hy (by rw [hop]; simp [Op.operands]) hs
    unfold execOp
    simp only [hop, h1, h2]
    go_simp) hr
theorem tw_add1 {x y : Operand} {k : Nat} (hb : k ≤ 1000000000) (hop : o.op = .binOp .add 3 x y 3) (hx : evalE E x = some (.int .i64 (k : Int))) (hy : evalE E y = some (.int .i64 1)) (hw : Wd ops o E true)
    (hr : wpT Tryz.prog ops w0 Fin rest (E.put o.dst (.inl (.int .i64 ((k + 1 : Nat) : Int)))) (.inl (.int .i64 ((k + 1 : Nat) : Int)) :: Ts)) : wpT Tryz.prog ops w0 Fin (o :: rest) E Ts :=
  tw_pure _ hw (fun a W hW hs => by
    have h1 : a.eval x = _ := evalE_of hx (by rw [hop]; simp [Op.operands]) hs
    have h2 : a.eval y = _ := evalE_of hy (by rw [hop]; simp [Op.operands]) hs
    unfold execOp
    simp only [hop, h1, h2]
    go_simp
    have hwr : IntKind.wrap .i64 ((k : Int) + 1) = (k : Int) + 1 := IntWalk.i64_in _ (by omega)
    rw [hwr]) hr
theorem tw_bldA {x y : Operand} (a b : ByteArray) (hop : o.op = .build 80 #[(1, x), (2, y)]) (hx : evalE E x = some (.string a)) (hy : evalE E y = some (.string b)) (hw : Wd ops o E true)
    (hr : wpT Tryz.prog ops w0 Fin rest (E.put o.dst (.inl (.agg #[.string ⟨#[]⟩, .string a, .string b]))) (.inl (.agg #[.string ⟨#[]⟩, .string a, .string b]) :: Ts)) : wpT Tryz.prog ops w0 Fin (o :: rest) E Ts :=
  tw_pure _ hw (fun ac W hW hs => by
    have h1 : ac.eval x = _ := evalE_of hx (by rw [hop]; simp [Op.operands]) hs
    have h2 : ac.eval y = _ := evalE_of hy (by rw [hop]; simp [Op.operands]) hs
    unfold execOp
    simp only [hop, List.map_toArray, List.map_cons, List.map_nil, h1, h2]
    go_simp) hr
theorem tw_newA {x : Operand} (a b : ByteArray) (hop : o.op = .buildSlice 67 1 #[(0, x)]) (hx : evalE E x = some (.agg #[.string ⟨#[]⟩, .string a, .string b])) (hw : Wd ops o E true)
    (hr : wpT Tryz.prog ops w0 Fin rest (E.put o.dst (SlA1 ⟨emB, a, b⟩)) (SlA1 ⟨emB, a, b⟩ :: Ts)) : wpT Tryz.prog ops w0 Fin (o :: rest) E Ts :=
  tw_val (SlA1 ⟨emB, a, b⟩) (stable_sla1 _) hw (fun ac W hW hs => by
    have h1 : ac.eval x = _ := evalE_of hx (by rw [hop]; simp [Op.operands]) hs
    refine ⟨.slice (some ⟨W.heap.size, 0, none⟩) 1 1, W.alloc (.cells #[.string ⟨#[]⟩, .string a, .string b] 80), ?_, (Below.refl _ W).alloc (Nat.le_refl _) _, W.heap.size, rfl, heap_alloc_new W _⟩
    unfold execOp
    simp only [hop, List.map_toArray, List.map_cons, List.map_nil, h1]
    go_simp) hr
end
theorem rd_a1 {W : World} {g : Nat} {a : AttrL} (h : W.heap[g]? = some (.cells #[.string a.space, .string a.name, .string a.value] 80 (0, 0))) : Rd W (g + 1) 3 (some ⟨g, 0, none⟩) 1 (cellsA [a]) := by
  refine ⟨rfl, fun _ => ⟨g, 0, rfl, Nat.lt_succ_self _, fun j u hu => ?_⟩⟩
  rw [Nat.zero_add, cell_of_row W g j _ _ _ h]
  simpa [cellsA, cA] using hu
theorem rda_of {w w' : World} {A : Option Addr} {l : List AttrL} {g : Nat} (h : RdA w w.heap.size A l) (hl : ∀ b off, A = some ⟨b, off, none⟩ → b ≠ g) (hk : ∀ b q, b ≠ g → w'.cell? ⟨b, q, none⟩ = w.cell? ⟨b, q, none⟩) (hs : w.heap.size ≤ w'.heap.size) : RdA w' w'.heap.size A l := fun h0 => by
  obtain ⟨b, off, h1, hb, hcc⟩ := h h0
  have hne := hl b off h1
  refine ⟨b, off, h1, Nat.lt_of_lt_of_le hb hs, fun i x hi => ?_⟩
  obtain ⟨e0, e1, e2⟩ := hcc i x hi
  exact ⟨(hk _ _ hne).trans e0, (hk _ _ hne).trans e1, (hk _ _ hne).trans e2⟩
theorem put6_cell (w : World) (g b q : Nat) (hne : b ≠ g) (u0 u1 u2 u3 u4 u5 : Value) : (put6 w g u0 u1 u2 u3 u4 u5).cell? ⟨b, q, none⟩ = w.cell? ⟨b, q, none⟩ := by
  have h : ∀ (o : Nat), (⟨g, o, none⟩ : Addr) ≠ ⟨b, q, none⟩ := fun o e => hne (by injection e with e; exact e.symm)
  unfold put6
  rw [World.cell?_setCell_other _ _ _ _ (h 5), World.cell?_setCell_other _ _ _ _ (h 4), World.cell?_setCell_other _ _ _ _ (h 3), World.cell?_setCell_other _ _ _ _ (h 2), World.cell?_setCell_other _ _ _ _ (h 1), World.cell?_setCell_other _ _ _ _ (h 0)]
theorem own_ne {A : Option Addr} {n c B g : Nat} (hl : ∀ k, (Value.slice A n c).ownBlock = some k → g + 2 ≤ k ∧ k < B) : ∀ b off, A = some ⟨b, off, none⟩ → b ≠ g := fun b off h => by
  have := (hl b (by rw [h]; rfl)).1
  omega
theorem elem_put6 {space name : ByteArray} {l : List AttrL} {w wr : World} {A : Option Addr} {c B : Nat} (hb : Below w.heap.size w wr) (h : RdA wr wr.heap.size A l) (hl : ∀ k, (Value.slice A l.length c).ownBlock = some k → w.heap.size + 2 ≤ k ∧ k < B) (hc : l.length ≤ c) :
    ElemE space name l w (.returned (encN (mkN space name l) A c)) (put6 wr w.heap.size (.int .u8 1) (.string space) (.string name) (.slice A l.length c) (.string ⟨#[]⟩) (.int .i64 0)) := by
  have h1 := put6_below (Below.refl w.heap.size wr) (g := w.heap.size) (Nat.le_refl _) (.int .u8 1) (.string space) (.string name) (.slice A l.length c) (.string ⟨#[]⟩) (.int .i64 0)
  have h2 := fun b q hne => put6_cell wr w.heap.size b q hne (.int .u8 1) (.string space) (.string name) (.slice A l.length c) (.string ⟨#[]⟩) (.int .i64 0)
  generalize put6 wr w.heap.size (.int .u8 1) (.string space) (.string name) (.slice A l.length c) (.string ⟨#[]⟩) (.int .i64 0) = W at h1 h2 ⊢
  refine elemE_mk rfl hc (fun h0 => ?_) (hb.trans h1)
  obtain ⟨b, off, h3, h4, h5⟩ := rda_of h (own_ne hl) h2 h1.size h0
  have h6 := hl b (by rw [h3]; rfl)
  exact ⟨b, off, h3, by omega, by omega, h4, h5⟩
set_option maxHeartbeats 4000000 in
set_option maxRecDepth 10000 in
theorem elem_any (space name : ByteArray) (ps : List ByteArray) (A : Option Addr) (c : Nat) (w : World) (hr : RdS w A ps) (hn : ps.length ≤ 100) :
    Calls Tryz.prog 28 #[.string space, .string name, .slice A ps.length c] w (ElemE space name (pairsT ps (ps.length / 2)) w) := by
  obtain ⟨W0, hW0⟩ : ∃ W0, W0 = (w.alloc (.cells zeroC 69)).alloc (.cells (nodeC space name (.slice none 0 0)) 69) := ⟨_, rfl⟩
  have hX0 : Below w.heap.size w W0 := by rw [hW0]; exact ((Below.refl _ _).alloc (Nat.le_refl _) _).alloc (by simp) _
  have hs0 : W0.heap.size = w.heap.size + 2 := by rw [hW0]; simp
  have hR0 : W0.heap[w.heap.size]? = some (.cells zeroC 69 (0, 0)) := by
    rw [hW0]; exact heap_ext (heap_alloc_new w _) ((Below.refl _ _).alloc (Nat.le_refl _) _)
  have hN0 : W0.heap[w.heap.size + 1]? = some (.cells (nodeC space name (.slice none 0 0)) 69 (0, 0)) := by
    rw [hW0]
    have h := heap_alloc_new (w.alloc (.cells zeroC 69)) (.cells (nodeC space name (.slice none 0 0)) 69)
    simpa using h
  have HR := Lib.hid hr
  have HX0 := Lib.hid hX0
  have HR0 := Lib.hid hR0
  have HN0 := Lib.hid hN0
  have HS0 := Lib.hid hs0
  have HWE := Lib.hid (show W0 = (w.alloc (.cells #[.int .u8 0, .string ⟨#[]⟩, .string ⟨#[]⟩, .slice none 0 0, .string ⟨#[]⟩, .int .i64 0] 69)).alloc (.cells #[.int .u8 1, .string space, .string name, .slice none 0 0, .string ⟨#[]⟩, .int .i64 0] 69) from hW0)
  clear hW0 hX0 hs0 hR0 hN0 hr
  go_enter Tryz.func28, Tryz.ntmps28
  go_wp2
  rw [← HWE.out]
  go_loopw [8] (fun s8 wr => ∃ (k i : Nat) (Aq : Option Addr) (cq : Nat), (k ≤ ps.length / 2 ∧ i ≤ 2 * k ∧ 2 * k ≤ i) ∧ s8 = .int .i64 (i : Int) ∧ Hid (Below w.heap.size w wr) ∧ Hid (wr.ownsRow (w.heap.size + 2) 80 3 (.slice Aq (pairsT ps k).length cq) (pairsT ps k).length (cellsA (pairsT ps k))) ∧
    Hid (wr.heap[w.heap.size]? = some (.cells zeroC 69 (0, 0))) ∧ Hid (wr.heap[w.heap.size + 1]? = some (.cells (nodeC space name (.slice Aq (pairsT ps k).length cq)) 69 (0, 0))) ∧ Hid (w.heap.size + 2 ≤ wr.heap.size)) (fun s8 _ => ps.length - (intOf s8).toNat)
  case atStart => exact ⟨0, 0, none, 0, ⟨Nat.zero_le _, Nat.le_refl _, Nat.le_refl _⟩, rfl, HX0, World.ownsRow_nil _ _ _ _, HR0, HN0, Lib.hid (by rw [HS0.out]; exact Nat.le_refl _)⟩
  case round =>
    obtain ⟨k, i, Aq, cq, ⟨hk, hi, hi'⟩, rfl, HB, HO, HR1, HN1, HS⟩ := hrel
    by_cases hlt : i + 1 < ps.length
    · obtain ⟨x, hx⟩ : ∃ x, ps[i]? = some x := ⟨_, List.getElem?_eq_getElem (by omega)⟩
      obtain ⟨y, hy⟩ : ∃ y, ps[i + 1]? = some y := ⟨_, List.getElem?_eq_getElem hlt⟩
      obtain ⟨b, off, rfl, hb, hcc⟩ := HR.out (by omega)
      have e1 := (HB.out.cell (p := ⟨b, off + i, none⟩) hb).trans (hcc i x hx)
      have e2 := (HB.out.cell (p := ⟨b, off + (i + 1), none⟩) hb).trans (hcc (i + 1) y hy)
      have HPT : Hid (pairsT ps (k + 1) = withA (pairsT ps k) x y) := Lib.hid (by
        obtain rfl : i = 2 * k := by omega
        show withA (pairsT ps k) (ps.getD (2 * k) emB) (ps.getD (2 * k + 1) emB) = _
        rw [List.getD_eq_getElem?_getD, List.getD_eq_getElem?_getD, hx, hy]; rfl)
      have hk2 : k + 1 ≤ ps.length / 2 := by omega
      have hpl := pairsT_len ps k
      have el := emp_iff y
      have HWA : Box (withA (pairsT ps k) x y = if isEmp y then pairsT ps k else pairsT ps k ++ [⟨emB, x, y⟩]) := ⟨rfl⟩
      clear hx hy hcc
      cases hey : isEmp y
      · rw [hey] at el HWA
        have c3 : wr.cell? ⟨w.heap.size + 1, 3, none⟩ = some (.slice Aq (pairsT ps k).length cq) := by simp [World.cell?, HN1.out, nodeC]
        have f3 := True.intro
        have G1 := Lib.hid (fun W (hW : Ext wr.drew W) => (ext_below hW).cell (p := ⟨b, off + i, none⟩) (Nat.lt_of_lt_of_le hb HB.out.size) |>.trans e1)
        have G2 := Lib.hid (fun W (hW : Ext wr.drew W) => (ext_below hW).cell (p := ⟨b, off + (i + 1), none⟩) (Nat.lt_of_lt_of_le hb HB.out.size) |>.trans e2)
        have G3 := Lib.hid (fun W (hW : Ext wr.drew W) => (ext_below hW).cell (p := ⟨w.heap.size + 1, 3, none⟩) (by have := HS.out; show _ + 1 < _; omega) |>.trans c3)
        clear hey
        go_wp2_with fail
        refine wp_region_typed_tail 13 rfl (by kernel_rfl) (by kernel_rfl) (by kernel_rfl) ?_
        repeat (first | refine tw_ldA rfl rfl G3.out (by first | exact wd_none rfl | exact wd_yes rfl rfl rfl) ?_ | refine tw_ixS (k := i) (by omega) rfl rfl rfl (by first | exact wd_none rfl | exact wd_yes rfl rfl rfl) ?_ | refine tw_ixS (k := i + 1) hlt rfl rfl rfl (by first | exact wd_none rfl | exact wd_yes rfl rfl rfl) ?_ | refine tw_ldS rfl rfl G1.out (by first | exact wd_none rfl | exact wd_yes rfl rfl rfl) ?_ | refine tw_ldS rfl rfl G2.out (by first | exact wd_none rfl | exact wd_yes rfl rfl rfl) ?_ | refine tw_add1 (by omega) rfl rfl rfl (by first | exact wd_none rfl | exact wd_yes rfl rfl rfl) ?_ | refine tw_bldA x y rfl rfl rfl (by first | exact wd_none rfl | exact wd_yes rfl rfl rfl) ?_ | refine tw_newA x y rfl rfl (by first | exact wd_none rfl | exact wd_yes rfl rfl rfl) ?_ | refine tw_skip (wd_no rfl rfl rfl) ?_ | refine tw_mv (.inl rfl) rfl (by first | exact wd_none rfl | exact wd_yes rfl rfl rfl) ?_ | refine tw_mv (.inr rfl) rfl (by first | exact wd_none rfl | exact wd_yes rfl rfl rfl) ?_ | refine tw_pickL rfl rfl rfl (by first | exact wd_none rfl | exact wd_yes rfl rfl rfl) ?_ | refine tw_op1 _ rfl rfl (by first | exact wd_none rfl | exact wd_yes rfl rfl rfl) (fun ρ W hW h1 => by simp only [execOp, h1]; go_simp; first | done | rfl) ?_ | refine tw_op2 _ rfl rfl rfl (by first | exact wd_none rfl | exact wd_yes rfl rfl rfl) (fun ρ W hW h1 h2 => by simp only [execOp, h1, h2]; go_simp; first | done | rfl) ?_)
        dsimp only [wpT, List.reverse, List.reverseAux, FinT, SlA1, List.take, List.drop]
        intro u9 W5 hW5 hu9
        obtain ⟨g9, rfl, hg9⟩ := hu9.2
        simp only [Act.put, List.setIfInBounds_toArray, List.set_cons_zero, List.set_cons_succ]
        have hb5 : Below wr.heap.size wr W5 := ext_below hW5
        have HO5 := Lib.hid (own_keep HO.out hb5)
        have HRD := Lib.hid (rd_a1 (a := ⟨emB, x, y⟩) hg9)
        have HS5 : Hid (w.heap.size + 2 ≤ W5.heap.size) := Lib.hid (Nat.le_trans HS.out hb5.size)
        have HB5 := Lib.hid (HB.out.trans (hb5.mono HB.out.size))
        have HR5 := Lib.hid (heap_ext HR1.out hb5)
        have HN5 := Lib.hid (heap_ext HN1.out hb5)
        clear hW5 hu9 hg9 hb5 G1 G2 G3 e1 e2 c3 f3
        go_wp2_with (at_builtin; refine app_attrs rfl _ _ rfl (w.heap.size + 2) _ (pairsT ps k).length (pairsT ps k) rfl HO5.out _ _ _ _ [⟨emB, x, y⟩] rfl HRD.out (by omega) HS5.out ?_)
        intro v2 w2 o2 hg2 _
        obtain ⟨A2, c2, rfl⟩ := own_form o2
        have k2 := Lib.hid ((Below.refl (w.heap.size + 2) W5).grown hg2 HS5.out (fun q hq => (HO5.out.lt q hq).1))
        have HP2 : Hid (pairsT ps (k + 1) = pairsT ps k ++ [⟨emB, x, y⟩]) := Lib.hid (HPT.out.trans (HWA.out.trans (by rfl)))
        have HO2 := Lib.hid o2
        have HB2 : Hid (Below w.heap.size w w2) := Lib.hid (HB5.out.trans (k2.out.mono (by omega)))
        have HR2 : Hid (w2.heap[w.heap.size]? = some (.cells zeroC 69 (0, 0))) := Lib.hid ((k2.out.block w.heap.size (by omega)).trans HR5.out)
        have HN2 : Hid (w2.heap[w.heap.size + 1]? = some (.cells (nodeC space name (.slice Aq (pairsT ps k).length cq)) 69 (0, 0))) := Lib.hid ((k2.out.block (w.heap.size + 1) (by omega)).trans HN5.out)
        have HS2 : Hid (w.heap.size + 2 ≤ w2.heap.size) := Lib.hid (Nat.le_trans HS5.out k2.out.size)
        have hps : i ≤ 100 := by omega
        have c3 : w2.cell? ⟨w.heap.size + 1, 3, none⟩ = some (.slice Aq (pairsT ps k).length cq) := by simp [World.cell?, HN2.out, nodeC]
        have f3 := frozen_of_row w2 (w.heap.size + 1) 3 _ _ HN2.out
        clear o2 hg2 k2 HO5 HRD
        go_wp2
        go_roundw
        case rel =>
          refine ⟨k + 1, i + 2, A2, c2, ⟨hk2, by omega, by omega⟩, by go_num, Lib.hid (HB2.out.setCell (p := ⟨w.heap.size + 1, 3, none⟩) (by simp) _), Lib.hid ?_, Lib.hid ((heap_setCell_other w2 _ w.heap.size _ (by simp)).trans HR2.out), Lib.hid ?_, Lib.hid (by simpa [World.setCell] using HS2.out)⟩
          · rw [HP2.out, List.length_append]
            exact own_set HO2.out (fun e => by have := (HO2.out.lt _ e).1; omega) _
          · rw [HP2.out, List.length_append]
            exact heap_setCell_same w2 (w.heap.size + 1) 3 _ _ _ HN2.out
        case measure => simp [intOf]; omega
      · rw [hey] at el HWA
        have HP2 : Hid (pairsT ps (k + 1) = pairsT ps k) := Lib.hid (HPT.out.trans (HWA.out.trans (by rfl)))
        clear hey
        go_wp2
        go_roundw
        case rel => exact ⟨k + 1, i + 2, Aq, cq, ⟨hk2, by omega, by omega⟩, by go_num, HB, by rw [HP2.out]; exact HO, HR1, by rw [HP2.out]; exact HN1, HS⟩
        case measure => simp [intOf]; omega
    · obtain rfl : k = ps.length / 2 := by omega
      have hi9 : i ≤ 101 := by omega
      clear hk hi hi'
      generalize pairsT ps (ps.length / 2) = L at *
      have c0 : wr.cell? ⟨w.heap.size + 1, 0, none⟩ = some (.int .u8 1) := by simp [World.cell?, HN1.out, nodeC]
      have c1 : wr.cell? ⟨w.heap.size + 1, 1, none⟩ = some (.string space) := by simp [World.cell?, HN1.out, nodeC]
      have c2 : wr.cell? ⟨w.heap.size + 1, 2, none⟩ = some (.string name) := by simp [World.cell?, HN1.out, nodeC]
      have c3 : wr.cell? ⟨w.heap.size + 1, 3, none⟩ = some (.slice Aq L.length cq) := by simp [World.cell?, HN1.out, nodeC]
      have c4 : wr.cell? ⟨w.heap.size + 1, 4, none⟩ = some (.string ⟨#[]⟩) := by simp [World.cell?, HN1.out, nodeC]
      have c5 : wr.cell? ⟨w.heap.size + 1, 5, none⟩ = some (.int .i64 0) := by simp [World.cell?, HN1.out, nodeC]
      have z0 : wr.cell? ⟨w.heap.size, 0, none⟩ = some (.int .u8 0) := by simp [World.cell?, HR1.out, zeroC]
      have z1 : wr.cell? ⟨w.heap.size, 1, none⟩ = some (.string ⟨#[]⟩) := by simp [World.cell?, HR1.out, zeroC]
      have z2 : wr.cell? ⟨w.heap.size, 2, none⟩ = some (.string ⟨#[]⟩) := by simp [World.cell?, HR1.out, zeroC]
      have z3 : wr.cell? ⟨w.heap.size, 3, none⟩ = some (.slice none 0 0) := by simp [World.cell?, HR1.out, zeroC]
      have z4 : wr.cell? ⟨w.heap.size, 4, none⟩ = some (.string ⟨#[]⟩) := by simp [World.cell?, HR1.out, zeroC]
      have z5 : wr.cell? ⟨w.heap.size, 5, none⟩ = some (.int .i64 0) := by simp [World.cell?, HR1.out, zeroC]
      have f0 := frozen_of_row wr w.heap.size 0 _ _ HR1.out
      have f1 := frozen_of_row wr w.heap.size 1 _ _ HR1.out
      have f2 := frozen_of_row wr w.heap.size 2 _ _ HR1.out
      have f3 := frozen_of_row wr w.heap.size 3 _ _ HR1.out
      have f4 := frozen_of_row wr w.heap.size 4 _ _ HR1.out
      have f5 := frozen_of_row wr w.heap.size 5 _ _ HR1.out
      have HLE := Lib.hid (own_le HO.out)
      have HRA := Lib.hid (rd_rda (Rd.of_own HO.out))
      have HLT := Lib.hid HO.out.lt
      go_wp2
      have hh := put6_heap HR1.out (.int .u8 1) (.string space) (.string name) (.slice Aq L.length cq) (.string ⟨#[]⟩) (.int .i64 0)
      refine bodyPost_ret (v := .agg #[.int .u8 1, .string space, .string name, .slice Aq L.length cq, .string ⟨#[]⟩, .int .i64 0]) (results_one (fn := Tryz.f28) (p := 6) (ty := 69) rfl _ _ w.heap.size _ _ _ rfl hh Tryz.underlying69 (by kernel_rfl)) rfl ?_
      exact elem_put6 (name := name) (space := space) HB.out HRA.out HLT.out HLE.out
end Go.Proofs.YtnfokaecobddkaaGreatDoor
end
section
namespace Go.Proofs.YtnfokaecobddkaaGreatDoor
open Go.RowKit
set_option linter.unusedSimpArgs false
set_option linter.unusedVariables false
def buildE (s : StL) : Int := if stnI s then putE (elemS s) s.load else 8
def buildV (s : StL) : List NodeL := if stnI s then putV (elemS s) s.load else []
def BuildPost (s : StL) (w : World) (e : Ending) (w' : World) : Prop :=
  ∃ A c, e = .returned (.tuple #[.slice A (buildV s).length c, .int .i64 (buildE s)]) ∧ (buildV s).length ≤ c ∧ NewV w.heap.size w' A c (buildV s) ∧ Below w.heap.size w w'
theorem BuildPost.no {s : StL} {w w' : World} (h : Below w.heap.size w w') (hs : stnI s = false) : BuildPost s w (.returned (.tuple #[.slice none 0 0, .int .i64 8])) w' := by
  unfold BuildPost buildV buildE
  rw [hs]
  exact ⟨none, 0, rfl, Nat.le_refl _, NewV.nil _ _, h⟩
theorem typed_kind {k : Int} {s : ByteArray} (h : typedI k s = true) : 1 ≤ k ∧ k ≤ 3 := by
  unfold typedI typesOf at h
  split at h
  · omega
  · split at h
    · omega
    · split at h
      · omega
      · cases h
theorem stn_kind {s : StL} (h : stnI s = true) : 1 ≤ s.kind ∧ s.kind ≤ 3 := by
  unfold stnI at h
  simp only [Bool.and_eq_true] at h
  exact typed_kind h.1.1.1.1.1
theorem name_of {k : Int} (h1 : 1 ≤ k) (h2 : k ≤ 3) : kindNames[k.toNat]? = some (wordI k) := by
  have : k = 1 ∨ k = 2 ∨ k = 3 := by omega
  rcases this with rfl | rfl | rfl <;> rfl
theorem elemS_eq (s : StL) : elemS s = mkN (⟨#[106, 97, 98, 98, 101, 114, 58, 99, 108, 105, 101, 110, 116]⟩ : ByteArray) (wordI s.kind) (pairsT [(⟨#[116, 121, 112, 101]⟩ : ByteArray), s.typ, (⟨#[105, 100]⟩ : ByteArray), s.id, (⟨#[102, 114, 111, 109]⟩ : ByteArray), s.frm, (⟨#[116, 111]⟩ : ByteArray), s.to] ([(⟨#[116, 121, 112, 101]⟩ : ByteArray), s.typ, (⟨#[105, 100]⟩ : ByteArray), s.id, (⟨#[102, 114, 111, 109]⟩ : ByteArray), s.frm, (⟨#[116, 111]⟩ : ByteArray), s.to].length / 2)) := by
  have h : ([(⟨#[116, 121, 112, 101]⟩ : ByteArray), s.typ, (⟨#[105, 100]⟩ : ByteArray), s.id, (⟨#[102, 114, 111, 109]⟩ : ByteArray), s.frm, (⟨#[116, 111]⟩ : ByteArray), s.to] : List ByteArray).length / 2 = 4 := by simp
  rw [h]
  rfl
def PtStr (s : ByteArray) : Ty := .inr fun u W => ∃ b off, u = .pointer (some ⟨b, off, none⟩) ∧ b < W.heap.size ∧ W.cell? ⟨b, off, none⟩ = some (.string s)
theorem stable_ptstr (s : ByteArray) : Stable (PtStr s) := fun u W W' h hx => by
  obtain ⟨b, off, h1, h2, h3⟩ := h
  exact ⟨b, off, h1, Nat.lt_of_lt_of_le h2 hx.size, (hx.cell (p := ⟨b, off, none⟩) h2).trans h3⟩
def ElT (n : NodeL) : Ty := .inr fun u W => ∃ A c, u = encN n A c ∧ n.attrs.length ≤ c ∧ RdA W W.heap.size A n.attrs
theorem stable_elt (n : NodeL) : Stable (ElT n) := fun u W W' h hx => by
  obtain ⟨A, c, h1, h2, h3⟩ := h
  exact ⟨A, c, h1, h2, (h3.below hx (Nat.le_refl _)).more hx.size⟩
def NwT (base : Nat) (v : List NodeL) : Ty := .inr fun u W => ∃ A c, u = .slice A v.length c ∧ v.length ≤ c ∧ NewV base W A c v
theorem stable_nwt (base : Nat) (v : List NodeL) : Stable (NwT base v) := fun u W W' h hx => by
  obtain ⟨A, c, h1, h2, h3⟩ := h
  exact ⟨A, c, h1, h2, h3.ext hx⟩
def NwE (base : Nat) (v : List NodeL) (q : Int) : Ty := .inr fun u W => ∃ A c, u = .tuple #[.slice A v.length c, .int .i64 q] ∧ v.length ≤ c ∧ NewV base W A c v
theorem stable_nwe (base : Nat) (v : List NodeL) (q : Int) : Stable (NwE base v q) := fun u W W' h hx => by
  obtain ⟨A, c, h1, h2, h3⟩ := h
  exact ⟨A, c, h1, h2, h3.ext hx⟩
section
variable {ops : Array Oper} {w0 : World} {Fin : List Ty → Prop} {rest : List Oper} {E : Env} {Ts : List Ty} {o : Oper}
theorem tw_ixNm {m : Tmp} {x : Operand} {k : Int} {s : ByteArray} (h0 : 0 ≤ k) (h1 : k < 256) (hk : kindNames[k.toNat]? = some s) (hop : o.op = .indexAddr 44 (.tmp m) x) (hE : E m = SlS kindNames) (hx : evalE E x = some (.int .u8 k)) (hw : Wd ops o E true)
    (hr : wpT Tryz.prog ops w0 Fin rest (E.put o.dst (PtStr s)) (PtStr s :: Ts)) : wpT Tryz.prog ops w0 Fin (o :: rest) E Ts :=
  tw_val (PtStr s) (stable_ptstr s) hw (fun a W hW hs => by
    have q := hs m (looks_of (x := .tmp m) (by rw [hop]; simp [Op.operands]) rfl)
    rw [hE] at q
    obtain ⟨A, c, e1, e2⟩ := q
    have g1 : a.eval (.tmp m) = .slice A kindNames.length c := e1
    have g2 : a.eval x = .int .u8 k := evalE_of hx (by rw [hop]; simp [Op.operands]) hs
    obtain ⟨b, off, rfl, hb, hc⟩ := e2 (by decide)
    have hlt := (List.getElem?_eq_some_iff.1 hk).1
    have h4 : kindNames.length = 4 := rfl
    rw [h4] at g1 hlt
    have hk4 : k < 4 := by omega
    refine ⟨.pointer (some ⟨b, off + k.toNat, none⟩), W, ?_, Ext.refl _, b, off + k.toNat, rfl, hb, hc _ _ hk⟩
    clear hs hr e1
    generalize a.eval = ρ at *
    unfold execOp
    simp only [hop, g1, g2]
    go_simp) hr
theorem tw_ldPt {m : Tmp} {s : ByteArray} (hop : o.op = .load 9 (.tmp m)) (hE : E m = PtStr s) (hw : Wd ops o E true)
    (hr : wpT Tryz.prog ops w0 Fin rest (E.put o.dst (.inl (.string s))) (.inl (.string s) :: Ts)) : wpT Tryz.prog ops w0 Fin (o :: rest) E Ts :=
  tw_pure (.string s) hw (fun a W hW hs => by
    have q := hs m (looks_of (x := .tmp m) (by rw [hop]; simp [Op.operands]) rfl)
    rw [hE] at q
    obtain ⟨b, off, e1, e2, e3⟩ := q
    have g1 : a.eval (.tmp m) = .pointer (some ⟨b, off, none⟩) := e1
    clear hs hr
    generalize a.eval = ρ at *
    unfold execOp
    simp only [hop, g1]
    go_simp) hr
theorem tw_str8 {x0 x1 x2 x3 x4 x5 x6 x7 : Operand} (s0 s1 s2 s3 s4 s5 s6 s7 : ByteArray) (hop : o.op = .buildSlice 44 8 #[(0, x0), (1, x1), (2, x2), (3, x3), (4, x4), (5, x5), (6, x6), (7, x7)])
    (h0 : evalE E x0 = some (.string s0)) (h1 : evalE E x1 = some (.string s1)) (h2 : evalE E x2 = some (.string s2)) (h3 : evalE E x3 = some (.string s3)) (h4 : evalE E x4 = some (.string s4)) (h5 : evalE E x5 = some (.string s5)) (h6 : evalE E x6 = some (.string s6)) (h7 : evalE E x7 = some (.string s7)) (hw : Wd ops o E true)
    (hr : wpT Tryz.prog ops w0 Fin rest (E.put o.dst (SlS [s0, s1, s2, s3, s4, s5, s6, s7])) (SlS [s0, s1, s2, s3, s4, s5, s6, s7] :: Ts)) : wpT Tryz.prog ops w0 Fin (o :: rest) E Ts :=
  tw_val (SlS [s0, s1, s2, s3, s4, s5, s6, s7]) (stable_sls _) hw (fun a W hW hs => by
    have e0 : a.eval x0 = _ := evalE_of h0 (by rw [hop]; simp [Op.operands]) hs
    have e1 : a.eval x1 = _ := evalE_of h1 (by rw [hop]; simp [Op.operands]) hs
    have e2 : a.eval x2 = _ := evalE_of h2 (by rw [hop]; simp [Op.operands]) hs
    have e3 : a.eval x3 = _ := evalE_of h3 (by rw [hop]; simp [Op.operands]) hs
    have e4 : a.eval x4 = _ := evalE_of h4 (by rw [hop]; simp [Op.operands]) hs
    have e5 : a.eval x5 = _ := evalE_of h5 (by rw [hop]; simp [Op.operands]) hs
    have e6 : a.eval x6 = _ := evalE_of h6 (by rw [hop]; simp [Op.operands]) hs
    have e7 : a.eval x7 = _ := evalE_of h7 (by rw [hop]; simp [Op.operands]) hs
    refine ⟨.slice (some ⟨W.heap.size, 0, none⟩) 8 8, W.alloc (.cells #[.string s0, .string s1, .string s2, .string s3, .string s4, .string s5, .string s6, .string s7] 9), ?_, (Below.refl _ W).alloc (Nat.le_refl _) _, some ⟨W.heap.size, 0, none⟩, 8, rfl, ?_⟩
    · clear hs hr
      generalize a.eval = ρ at *
      unfold execOp
      simp only [hop, List.map_toArray, List.map_cons, List.map_nil, e0, e1, e2, e3, e4, e5, e6, e7]
      go_simp
    · exact RdS.new W 9 [s0, s1, s2, s3, s4, s5, s6, s7]) hr
theorem tw_elem {x y : Operand} {m : Tmp} {ts : Array TypeId} (space name : ByteArray) (ps : List ByteArray) (n : NodeL) (hn : n = mkN space name (pairsT ps (ps.length / 2))) (hl : ps.length ≤ 100)
    (hop : o.op = .call { callee := .value (.func 28), args := #[x, y, .tmp m], argTypes := ts }) (hx : evalE E x = some (.string space)) (hy : evalE E y = some (.string name)) (hE : E m = SlS ps) (hw : Wd ops o E true)
    (hr : wpT Tryz.prog ops w0 Fin rest (E.put o.dst (ElT n)) (ElT n :: Ts)) : wpT Tryz.prog ops w0 Fin (o :: rest) E Ts :=
  tw_call (ElT n) (stable_elt n) hw (fun a W hW hs => by
    have q := hs m (looks_of (x := .tmp m) (by rw [hop]; simp [Op.operands, Call.operands]) rfl)
    rw [hE] at q
    obtain ⟨A, c, e1, e2⟩ := q
    have g0 : a.eval (.tmp m) = .slice A ps.length c := e1
    have g1 : a.eval x = .string space := evalE_of hx (by rw [hop]; simp [Op.operands, Call.operands]) hs
    have g2 : a.eval y = .string name := evalE_of hy (by rw [hop]; simp [Op.operands, Call.operands]) hs
    have e0 : a.eval (.func 28) = .func (.func 28) #[] #[] := rfl
    have hcf := enters_of (P := Tryz.prog) Tryz.func28 (by kernel_rfl) rfl #[.string space, .string name, .slice A ps.length c] W
    refine ⟨28, #[.string space, .string name, .slice A ps.length c], ?_, (elem_any space name ps A c W e2 hl).mono fun e w' h => ?_⟩
    · unfold execOp
      simp only [hop, resolve, e0, Deferred.ofValue, List.map_toArray, List.map_cons, List.map_nil, g0, g1, g2, Sem.run_bind, Sem.run_pure, Result.andThen_ok, invoke, Array.append_empty, Array.empty_append, hcf]
    · obtain ⟨A', c', h1, h2, h3, h4⟩ := h
      subst hn
      exact ⟨_, h1, h4, A', c', rfl, h2, h3.rda⟩) hr
theorem tw_put {m : Tmp} {y : Operand} {ts : Array TypeId} (base : Nat) (n : NodeL) (l : List (List NodeL)) (Al : Option Addr) (cl : Nat) (hb : base ≤ w0.heap.size) (hzn : SzN 1000000000 n) (hz : SzW l) (hl : ∀ W, Ext w0 W → RdW W W.heap.size Al l)
    (hop : o.op = .call { callee := .value (.func 27), args := #[.tmp m, y], argTypes := ts }) (hE : E m = ElT n) (hy : evalE E y = some (.slice Al l.length cl)) (hw : Wd ops o E true)
    (hr : wpT Tryz.prog ops w0 Fin rest (E.put o.dst (NwE base (putV n l) (putE n l))) (NwE base (putV n l) (putE n l) :: Ts)) : wpT Tryz.prog ops w0 Fin (o :: rest) E Ts :=
  tw_call (NwE base (putV n l) (putE n l)) (stable_nwe _ _ _) hw (fun a W hW hs => by
    have q := hs m (looks_of (x := .tmp m) (by rw [hop]; simp [Op.operands, Call.operands]) rfl)
    rw [hE] at q
    obtain ⟨A, c, e1, e2, e3⟩ := q
    have g0 : a.eval (.tmp m) = encN n A c := e1
    have g1 : a.eval y = .slice Al l.length cl := evalE_of hy (by rw [hop]; simp [Op.operands, Call.operands]) hs
    have e0 : a.eval (.func 27) = .func (.func 27) #[] #[] := rfl
    have hcf := enters_of (P := Tryz.prog) Tryz.func27 (by kernel_rfl) rfl #[encN n A c, .slice Al l.length cl] W
    refine ⟨27, #[encN n A c, .slice Al l.length cl], ?_, (put_node n A c l Al cl W hzn e3 e2 hz (hl W hW)).mono fun e w' h => ?_⟩
    · unfold execOp
      simp only [hop, resolve, e0, Deferred.ofValue, List.map_toArray, List.map_cons, List.map_nil, g0, g1, Sem.run_bind, Sem.run_pure, Result.andThen_ok, invoke, Array.append_empty, Array.empty_append, hcf]
    · obtain ⟨A', c', h1, h2, h3, h4⟩ := h
      exact ⟨_, h1, h4, A', c', rfl, h2, h3.mono (Nat.le_trans hb hW.size)⟩) hr
theorem tw_ex0 {m : Tmp} {base : Nat} {v : List NodeL} {q : Int} (hop : o.op = .extract (.tmp m) 0) (hE : E m = NwE base v q) (hw : Wd ops o E true)
    (hr : wpT Tryz.prog ops w0 Fin rest (E.put o.dst (NwT base v)) (NwT base v :: Ts)) : wpT Tryz.prog ops w0 Fin (o :: rest) E Ts :=
  tw_val (NwT base v) (stable_nwt _ _) hw (fun a W hW hs => by
    have q := hs m (looks_of (x := .tmp m) (by rw [hop]; simp [Op.operands]) rfl)
    rw [hE] at q
    obtain ⟨A, c, e1, e2, e3⟩ := q
    have g0 : a.eval (.tmp m) = _ := e1
    refine ⟨.slice A v.length c, W, ?_, Ext.refl _, A, c, rfl, e2, e3⟩
    clear hs hr
    generalize a.eval = ρ at *
    unfold execOp
    simp only [hop, g0]
    go_simp) hr
theorem tw_ex1 {m : Tmp} {base : Nat} {v : List NodeL} {q : Int} (hop : o.op = .extract (.tmp m) 1) (hE : E m = NwE base v q) (hw : Wd ops o E true)
    (hr : wpT Tryz.prog ops w0 Fin rest (E.put o.dst (.inl (.int .i64 q))) (.inl (.int .i64 q) :: Ts)) : wpT Tryz.prog ops w0 Fin (o :: rest) E Ts :=
  tw_pure (.int .i64 q) hw (fun a W hW hs => by
    have q := hs m (looks_of (x := .tmp m) (by rw [hop]; simp [Op.operands]) rfl)
    rw [hE] at q
    obtain ⟨A, c, e1, e2, e3⟩ := q
    have g0 : a.eval (.tmp m) = _ := e1
    clear hs hr
    generalize a.eval = ρ at *
    unfold execOp
    simp only [hop, g0]
    go_simp) hr
end
set_option maxHeartbeats 2000000 in
set_option maxRecDepth 10000 in
theorem build_any (s : StL) (A : Option Addr) (c : Nat) (w : World) (hz : SzS s) (hr : RdW w w.heap.size A s.load) (hg : Glb w) :
    Calls Tryz.prog 10 #[encS s A c] w (BuildPost s w) := by
  obtain ⟨W0, hW0⟩ : ∃ W0, W0 = w.alloc (.cells #[.int .u8 s.kind, .string s.typ, .string s.id, .string s.frm, .string s.to, .slice A s.load.length c] 24) := ⟨_, rfl⟩
  have hX0 : Below w.heap.size w W0 := by rw [hW0]; exact (Below.refl _ _).alloc (Nat.le_refl _) _
  have hS0 : SAt W0 w.heap.size s A c := by rw [hW0]; exact SAt.new _ _ _ _ _
  have HM := Lib.hid (scheck_any s A c W0 hz (RdW.ext hr hX0) (hg.below hX0))
  have HEE : Box (stnErr s = if stnI s then 0 else 8) := ⟨rfl⟩
  have HR := Lib.hid hr
  have HZ := Lib.hid hz
  have HX0 := Lib.hid hX0
  have HS := Lib.hid hS0
  have a0 := hS0.c0
  have a1 := hS0.c1
  have a2 := hS0.c2
  have a3 := hS0.c3
  have a4 := hS0.c4
  have a5 := hS0.c5
  rw [hW0] at a0 a1 a2 a3 a4 a5
  have HW0 := Lib.hid hW0
  clear hW0 hX0 hS0 hr hz hg
  unfold encS at *
  generalize stnErr s = q at *
  cases hst : stnI s
  all_goals
    rw [hst] at HEE
    have he := HEE.out
    try simp only [Bool.false_eq_true, if_false] at he
    try simp only [if_true] at he
    subst he
    have HST := Lib.hid hst
    clear hst HEE
    go_enter Tryz.func10, Tryz.ntmps10
    go_wp2_with fail
    rw [← HW0.out]
    refine HM.out.mono ?_
    rintro e w1 ⟨rfl, hb1⟩
    have X1 := Lib.hid (HX0.out.trans (hb1.mono HX0.out.size))
    have S1 := Lib.hid (HS.out.ext hb1)
    clear hb1 a0 a1 a2 a3 a4 a5
  · go_wp2
    go_ret2
    exact BuildPost.no X1.out HST.out
  · have hk := stn_kind HST.out
    have HKN := Lib.hid (name_of hk.1 hk.2)
    go_wp2_with fail
    have G := Lib.hid (fun W (hW : Ext w1.drew W) => S1.out.ext (ext_below hW))
    have GR := Lib.hid (fun W (hW : Ext w1.drew W) => RdW.ext HR.out (X1.out.trans ((ext_below hW).mono X1.out.size)))
    have G0 := Lib.hid (fun W hW => (G.out W hW).c0)
    have G1 := Lib.hid (fun W hW => (G.out W hW).c1)
    have G2 := Lib.hid (fun W hW => (G.out W hW).c2)
    have G3 := Lib.hid (fun W hW => (G.out W hW).c3)
    have G4 := Lib.hid (fun W hW => (G.out W hW).c4)
    have G5 := Lib.hid (fun W hW => (G.out W hW).c5)
    have HSN := Lib.hid (elemS_sz HZ.out)
    refine wp_region_typed rfl (by kernel_rfl) (by kernel_rfl) ?_
    repeat (first | refine tw_names rfl (by first | exact wd_none rfl | exact wd_yes rfl rfl rfl) ?_ | refine tw_ixNm (by omega) (by omega) HKN.out rfl rfl rfl (by first | exact wd_none rfl | exact wd_yes rfl rfl rfl) ?_ | refine tw_ldPt rfl rfl (by first | exact wd_none rfl | exact wd_yes rfl rfl rfl) ?_ | refine tw_ldU rfl rfl G0.out (by first | exact wd_none rfl | exact wd_yes rfl rfl rfl) ?_ | refine tw_ldS rfl rfl G1.out (by first | exact wd_none rfl | exact wd_yes rfl rfl rfl) ?_ | refine tw_ldS rfl rfl G2.out (by first | exact wd_none rfl | exact wd_yes rfl rfl rfl) ?_ | refine tw_ldS rfl rfl G3.out (by first | exact wd_none rfl | exact wd_yes rfl rfl rfl) ?_ | refine tw_ldS rfl rfl G4.out (by first | exact wd_none rfl | exact wd_yes rfl rfl rfl) ?_ | refine tw_ldW rfl rfl G5.out (by first | exact wd_none rfl | exact wd_yes rfl rfl rfl) ?_ | refine tw_str8 _ _ _ _ _ _ _ _ rfl rfl rfl rfl rfl rfl rfl rfl rfl (by first | exact wd_none rfl | exact wd_yes rfl rfl rfl) ?_ | refine tw_elem (⟨#[106, 97, 98, 98, 101, 114, 58, 99, 108, 105, 101, 110, 116]⟩ : ByteArray) (wordI s.kind) [(⟨#[116, 121, 112, 101]⟩ : ByteArray), s.typ, (⟨#[105, 100]⟩ : ByteArray), s.id, (⟨#[102, 114, 111, 109]⟩ : ByteArray), s.frm, (⟨#[116, 111]⟩ : ByteArray), s.to] (elemS s) (elemS_eq s) (by simp) rfl rfl rfl rfl (by first | exact wd_none rfl | exact wd_yes rfl rfl rfl) ?_ | refine tw_put w.heap.size (elemS s) s.load A c X1.out.size HSN.out HZ.out.2.2.2.2.2 GR.out rfl rfl rfl (by first | exact wd_none rfl | exact wd_yes rfl rfl rfl) ?_ | refine tw_ex0 rfl rfl (by first | exact wd_none rfl | exact wd_yes rfl rfl rfl) ?_ | refine tw_ex1 rfl rfl (by first | exact wd_none rfl | exact wd_yes rfl rfl rfl) ?_ | refine tw_move (NwT _ _) (stable_nwt _ _) (.inr rfl) rfl (by first | exact wd_none rfl | exact wd_yes rfl rfl rfl) ?_ | refine tw_skip (wd_no rfl rfl rfl) ?_ | refine tw_mv (.inl rfl) rfl (by first | exact wd_none rfl | exact wd_yes rfl rfl rfl) ?_ | refine tw_mv (.inr rfl) rfl (by first | exact wd_none rfl | exact wd_yes rfl rfl rfl) ?_ | refine tw_pickL rfl rfl rfl (by first | exact wd_none rfl | exact wd_yes rfl rfl rfl) ?_ | refine tw_op1 _ rfl rfl (by first | exact wd_none rfl | exact wd_yes rfl rfl rfl) (fun ρ W hW h1 => by simp only [execOp, h1]; go_simp; first | done | rfl) ?_ | refine tw_op2 _ rfl rfl rfl (by first | exact wd_none rfl | exact wd_yes rfl rfl rfl) (fun ρ W hW h1 h2 => by simp only [execOp, h1, h2]; go_simp; first | done | rfl) ?_)
    dsimp only [wpT, List.reverse, List.reverseAux, FinT, SlS, PtStr, ElT, NwE, NwT]
    intro v0 v1 v2 v3 v4 v5 v6 W9 hW9 hh
    obtain ⟨A9, c9, rfl, hl9, hn9⟩ := hh.2
    simp only [Act.put, List.setIfInBounds_toArray, List.set_cons_zero, List.set_cons_succ]
    have X9 := Lib.hid (X1.out.trans ((ext_below hW9).mono X1.out.size))
    have N9 := Lib.hid hn9
    have L9 := Lib.hid hl9
    clear hh hl9 hn9 hW9 G GR G0 G1 G2 G3 G4 G5
    go_wp2
    go_ret2
    unfold BuildPost buildV buildE
    rw [HST.out]
    exact ⟨A9, c9, rfl, L9.out, N9.out, X9.out⟩
end Go.Proofs.YtnfokaecobddkaaGreatDoor
end
section
namespace Go.Proofs.YtnfokaecobddkaaGreatDoor
def errL : ByteArray := (⟨#[117, 114, 110, 58, 105, 101, 116, 102, 58, 112, 97, 114, 97, 109, 115, 58, 120, 109, 108, 58, 110, 115, 58, 120, 109, 112, 112, 45, 115, 116, 97, 110, 122, 97, 115]⟩ : ByteArray)
def errN (word : ByteArray) : NodeL := ⟨1, errL, word, [], emB, 0⟩
def errH (k : Int) : NodeL := ⟨1, (⟨#[106, 97, 98, 98, 101, 114, 58, 99, 108, 105, 101, 110, 116]⟩ : ByteArray), (⟨#[101, 114, 114, 111, 114]⟩ : ByteArray), [⟨emB, (⟨#[116, 121, 112, 101]⟩ : ByteArray), (⟨#[99, 97, 110, 99, 101, 108]⟩ : ByteArray)⟩], emB, k⟩
def failV (word : ByteArray) : List NodeL := [errH 1, errN word]
def failS (s : StL) (word : ByteArray) : StL := ⟨s.kind, (⟨#[101, 114, 114, 111, 114]⟩ : ByteArray), s.id, s.to, s.frm, [failV word]⟩
def mayF (s : StL) : Bool := !(s.typ.toList == [101, 114, 114, 111, 114]) && (!decide (s.kind = 3) || !(s.typ.toList == [114, 101, 115, 117, 108, 116]))
def failE (s : StL) (word : ByteArray) : Int := if stnI s then (if mayF s && nameI word then 0 else 2) else 8
def failR (s : StL) (word : ByteArray) : StL := if stnI s then (if mayF s && nameI word then failS s word else emS) else emS
theorem one_tree {n : NodeL} (h : nodeI n = true) (h1 : n.kind = 1) (h2 : n.many = 0) : treeI [n] = true := by
  unfold treeI endN endK
  simp [h, h1, h2]
end Go.Proofs.YtnfokaecobddkaaGreatDoor
end
section
namespace Go.Proofs.YtnfokaecobddkaaGreatDoor
def cutV (v : List NodeL) (k m : Nat) : List NodeL := (v.drop k).take m
theorem cutV_at {v : List NodeL} {k m i : Nat} (h : i < m) : (cutV v k m)[i]? = v[k + i]? := by
  unfold cutV
  rw [List.getElem?_take, if_pos h, List.getElem?_drop]
theorem endK_shift {f g : Nat → Option Nat} {v u : List NodeL} {k m : Nat} (hu : ∀ i, i < m → u[i]? = v[k + i]?) (hle : ∀ i e, f i = some e → i < e ∧ e ≤ v.length)
    (hf : ∀ i e, f (k + i) = some e → e ≤ k + m → g i = some (e - k)) : ∀ (n i : Nat) (t : Bool) (e : Nat), endK f v n (k + i) t = some e → k + i ≤ v.length → e ≤ k + m → endK g u n i t = some (e - k)
  | 0, i, t, e, h, _, _ => by
    simp only [endK, Option.some.injEq] at h ⊢
    omega
  | n + 1, i, t, e, h, hi, he => by
    rw [endK] at h
    split at h
    · cases h
    · rename_i x hx
      split at h
      · cases h
      · rename_i hc
        split at h
        · cases h
        · rename_i e1 he1
          have h1 := hle _ _ he1
          have h2 := endK_le hle n e1 _ e h1.2 h
          obtain ⟨j, hj⟩ : ∃ j, e1 = k + j := ⟨e1 - k, by omega⟩
          rw [endK, hu i (by omega), hx]
          simp only
          rw [if_neg hc, hf i e1 he1 (by omega)]
          simp only
          subst hj
          rw [Nat.add_sub_cancel_left]
          exact endK_shift hu hle hf n j _ e h h1.2 he
theorem endN_shift {v u : List NodeL} {k m : Nat} (hu : ∀ i, i < m → u[i]? = v[k + i]?) : ∀ (d i e : Nat), endN v d (k + i) = some e → e ≤ k + m → endN u d i = some (e - k)
  | 0, i, e, h, he => by
    have hl := endN_le v 0 _ _ h
    rw [endN] at h ⊢
    rw [hu i (by omega)]
    cases hx : v[k + i]? with
    | none => rw [hx] at h; cases h
    | some n =>
      rw [hx] at h
      simp only at h ⊢
      by_cases hc : nodeI n = true ∧ n.kind = 2
      · rw [if_pos hc] at h ⊢
        simp only [Option.some.injEq] at h ⊢
        omega
      · rw [if_neg hc] at h; cases h
  | d + 1, i, e, h, he => by
    have hl := endN_le v (d + 1) _ _ h
    rw [endN] at h ⊢
    rw [hu i (by omega)]
    cases hx : v[k + i]? with
    | none => rw [hx] at h; cases h
    | some n =>
      rw [hx] at h
      simp only at h ⊢
      by_cases hc : nodeI n = true ∧ 0 ≤ n.many
      · rw [if_pos hc] at h ⊢
        have hlt := (List.getElem?_eq_some_iff.1 hx).1
        exact endK_shift hu (endN_le v d) (endN_shift hu d) _ (i + 1) false e (by rw [← Nat.add_assoc]; exact h) (by omega) he
      · rw [if_neg hc] at h; cases h
theorem kid_end {v : List NodeL} (ht : treeI v = true) {k : Nat} (hk : k ∈ kidsI v 0) : ∃ e, endN v 11 k = some e ∧ k < e ∧ e ≤ v.length ∧ endN v 12 k = some e := by
  have hC := chain_start (tree_parts ht).2.2.2
  have h0 := (tree_parts ht).1
  obtain ⟨j, hj, rfl⟩ := List.mem_iff_getElem.1 hk
  have hj' : j < manyN v 0 := by
    have := hj
    unfold kidsI at this
    rw [kidL_len] at this
    exact this
  have hkp : (kidsI v 0)[j] = kidP v j (0 + 1) := by
    unfold kidsI kidL
    simp
  have h1 := (kidP_chain (by omega) (by omega) hC j (by omega)).1
  obtain ⟨q, hq⟩ : ∃ q, manyN v 0 - j = q + 1 := ⟨manyN v 0 - j - 1, by omega⟩
  rw [hq] at h1
  rw [hkp]
  obtain ⟨t, h1⟩ := h1
  obtain ⟨m, x, -, h3, -⟩ := endK_inv h1
  have h4 := endN_le v 11 _ _ h3
  exact ⟨x, h3, h4.1, h4.2, endN_more v (by omega) h3⟩
theorem part_tree {v : List NodeL} (ht : treeI v = true) {k : Nat} (hk : k ∈ kidsI v 0) (h1 : (nodeAt v k).kind = 1) : treeI (partI v k) = true := by
  obtain ⟨e, he, hke, hel, he2⟩ := kid_end ht hk
  have hp : partI v k = cutV v k (e - k) := by unfold partI cutV; rw [he2]; rfl
  have hlen : (partI v k).length = e - k := part_len he2
  have h5 := (tree_parts ht).2.1
  rw [hp] at hlen ⊢
  have hs := endN_shift (v := v) (u := cutV v k (e - k)) (k := k) (m := e - k) (fun i hi => cutV_at hi) 12 0 e (by rw [Nat.add_zero]; exact he2) (by omega)
  obtain ⟨n, hn⟩ : ∃ n, v[k]? = some n := ⟨_, List.getElem?_eq_getElem (by omega)⟩
  have hn0 : (cutV v k (e - k))[0]? = some n := by rw [cutV_at (by omega), Nat.add_zero]; exact hn
  have hk1 : n.kind = 1 := by
    unfold nodeAt at h1
    rw [List.getD_eq_getElem?_getD, hn] at h1
    exact h1
  exact treeI_yes (by omega) hn0 hk1 (by rw [hs, hlen])
theorem elems_tree {v : List NodeL} (ht : treeI v = true) : ∀ x ∈ elemsI v, treeI x = true := fun x hx => by
  unfold elemsI elemsK at hx
  obtain ⟨k, hk, rfl⟩ := List.mem_map.1 hx
  obtain ⟨hk1, hk2⟩ := List.mem_filter.1 hk
  exact part_tree ht hk1 (by simpa using hk2)
end Go.Proofs.YtnfokaecobddkaaGreatDoor
end
section
namespace Go.Proofs.YtnfokaecobddkaaGreatDoor
def isDig (c : Int) : Bool := decide (48 ≤ c ∧ c ≤ 57)
def valK (l : List Int) : Nat → Int
  | 0 => 0
  | k + 1 => 10 * valK l k + (l.getD k 0 - 48)
def digK (l : List Int) (k : Nat) : Bool := (List.range k).all fun i => isDig (l.getD i 0)
def headOK (s : ByteArray) : Bool := !decide (s.size = 0) && !decide (16 < s.size) && !(decide ((numsOf s).getD 0 0 = 48) && !decide (s.size = 1))
def numOK (s : ByteArray) : Bool := headOK s && digK (numsOf s) s.size && !decide (9007199254740991 < valK (numsOf s) s.size)
def numV (s : ByteArray) : Int := if numOK s then valK (numsOf s) s.size else 0
def numE (s : ByteArray) : Int := if numOK s then 0 else 60
theorem num_no {s : ByteArray} (h : numOK s = false) : numV s = 0 ∧ numE s = 60 := by unfold numV numE; rw [h]; exact ⟨rfl, rfl⟩
theorem num_yes {s : ByteArray} (h : numOK s = true) : numV s = valK (numsOf s) s.size ∧ numE s = 0 := by unfold numV numE; rw [h]; exact ⟨rfl, rfl⟩
def levT (s : ByteArray) : ByteArray := if (numsOf s).getD 0 0 = 45 then s.extract 1 s.size else s
def levS (s : ByteArray) : Int := if (numsOf s).getD 0 0 = 45 then -1 else 1
def levOK (s : ByteArray) : Bool := numOK (levT s) && decide (-128 ≤ levS s * numV (levT s) ∧ levS s * numV (levT s) ≤ 127) && !(decide (levS s < 0) && decide (numV (levT s) = 0))
def levV (s : ByteArray) : Int := if levOK s then levS s * numV (levT s) else 0
def levE (s : ByteArray) : Int := if levOK s then 0 else 60
end Go.Proofs.YtnfokaecobddkaaGreatDoor
end
section
namespace Go.Proofs.YtnfokaecobddkaaGreatDoor
end Go.Proofs.YtnfokaecobddkaaGreatDoor
end
section
namespace Go.Proofs.YtnfokaecobddkaaGreatDoor
structure ItemL where
  jid : ByteArray
  name : ByteArray
  groups : List ByteArray
  to : Bool
  out : Bool
  frm : Bool
  inn : Bool
  known : Bool
theorem endK_in {f g : Nat → Option Nat} {v u : List NodeL} {k : Nat} (hu : ∀ i, i < u.length → v[k + i]? = u[i]?) (hf : ∀ i e, g i = some e → f (k + i) = some (k + e)) :
    ∀ (n i : Nat) (t : Bool) (e : Nat), endK g u n i t = some e → endK f v n (k + i) t = some (k + e)
  | 0, i, t, e, h => by
    simp only [endK, Option.some.injEq] at h ⊢
    omega
  | n + 1, i, t, e, h => by
    rw [endK] at h
    split at h
    · cases h
    · rename_i x hx
      split at h
      · cases h
      · rename_i hc
        split at h
        · cases h
        · rename_i e1 he1
          rw [endK, hu i (List.getElem?_eq_some_iff.1 hx).1, hx]
          simp only
          rw [if_neg hc, hf i e1 he1]
          exact endK_in hu hf n e1 _ e h
theorem endN_in {v u : List NodeL} {k : Nat} (hu : ∀ i, i < u.length → v[k + i]? = u[i]?) : ∀ (d i e : Nat), endN u d i = some e → endN v d (k + i) = some (k + e)
  | 0, i, e, h => by
    rw [endN] at h ⊢
    cases hx : u[i]? with
    | none => rw [hx] at h; cases h
    | some n =>
      rw [hu i (List.getElem?_eq_some_iff.1 hx).1, hx]
      rw [hx] at h
      simp only at h ⊢
      by_cases hc : nodeI n = true ∧ n.kind = 2
      · rw [if_pos hc] at h ⊢
        simp only [Option.some.injEq] at h ⊢
        omega
      · rw [if_neg hc] at h; cases h
  | d + 1, i, e, h => by
    rw [endN] at h ⊢
    cases hx : u[i]? with
    | none => rw [hx] at h; cases h
    | some n =>
      rw [hu i (List.getElem?_eq_some_iff.1 hx).1, hx]
      rw [hx] at h
      simp only at h ⊢
      by_cases hc : nodeI n = true ∧ 0 ≤ n.many
      · rw [if_pos hc] at h ⊢
        rw [Nat.add_assoc]
        exact endK_in hu (endN_in hu d) _ (i + 1) false e h
      · rw [if_neg hc] at h; cases h
def Tre (d : Nat) (x : List NodeL) : Prop := endN x d 0 = some x.length ∧ ∃ n r, x = n :: r ∧ n.kind = 1
theorem endK_join {v : List NodeL} {d : Nat} : ∀ (l : List (List NodeL)) (pre : List NodeL), v = pre ++ l.flatten → (∀ x ∈ l, Tre d x) → ∀ t, endK (endN v d) v l.length pre.length t = some (pre.length + l.flatten.length)
  | [], pre, hv, _, t => by simp [endK]
  | x :: l, pre, hv, hl, t => by
    obtain ⟨h1, n, r, rfl, hk⟩ := hl x (by simp)
    have hv2 : v = (pre ++ (n :: r)) ++ l.flatten := by rw [hv, List.flatten_cons, List.append_assoc]
    have hu : ∀ i, i < (n :: r).length → v[pre.length + i]? = (n :: r)[i]? := fun i hi => by
      rw [hv, List.flatten_cons, List.getElem?_append_right (by omega), Nat.add_sub_cancel_left, List.getElem?_append_left hi]
    have e0 := endN_in hu d 0 _ h1
    rw [Nat.add_zero] at e0
    have hn : v[pre.length]? = some n := by
      have := hu 0 (by simp)
      rw [Nat.add_zero] at this
      rw [this]; rfl
    have hc : ¬ (t && decide (n.kind = 2)) = true := by
      rw [hk]
      cases t <;> decide
    rw [List.length_cons, endK, hn]
    simp only
    rw [if_neg hc, e0]
    simp only
    have ih := endK_join l (pre ++ (n :: r)) hv2 (fun y hy => hl y (by simp [hy])) (decide (n.kind = 2))
    rw [List.length_append] at ih
    rw [ih, List.flatten_cons, List.length_append, Nat.add_assoc]
theorem node_many {n : NodeL} (hk : n.kind = 1) (k : Int) : nodeI (manyM n k) = nodeI n := by
  unfold nodeI manyM
  simp [hk]
theorem join_tre {n : NodeL} {l : List (List NodeL)} {d : Nat} (hn : nodeI n = true) (hk : n.kind = 1) (hl : ∀ x ∈ l, Tre d x) : Tre (d + 1) (joinV n l) := by
  refine ⟨?_, manyM n l.length, l.flatten, rfl, hk⟩
  rw [endN]
  show (match (some (manyM n l.length) : Option NodeL) with | none => none | some m => if nodeI m = true ∧ 0 ≤ m.many then endK (endN (joinV n l) d) (joinV n l) m.many.toNat (0 + 1) false else none) = _
  simp only
  rw [if_pos ⟨by rw [node_many hk]; exact hn, by show (0 : Int) ≤ (l.length : Int); omega⟩]
  have h := endK_join (v := joinV n l) (d := d) l [manyM n l.length] rfl hl false
  rw [joinV_len]
  exact h
theorem tre_tree {d : Nat} {x : List NodeL} (h : Tre d x) (hd : d ≤ 12) (hl : x.length ≤ 512) : treeI x = true := by
  obtain ⟨h1, n, r, rfl, hk⟩ := h
  exact treeI_yes (n := n) hl rfl hk (endN_more _ hd h1)
theorem flat_len_le {l : List (List NodeL)} {x : List NodeL} (h : x ∈ l) : x.length ≤ l.flatten.length := by
  induction l with
  | nil => cases h
  | cons y l ih =>
    rw [List.flatten_cons, List.length_append]
    rcases List.mem_cons.1 h with rfl | h
    · omega
    · have := ih h; omega
theorem put_ok {n : NodeL} {l : List (List NodeL)} {d : Nat} (hn : nodeI n = true) (hk : n.kind = 1) (hl : ∀ x ∈ l, Tre d x) (hlen : (joinV n l).length ≤ 512) (hd : d ≤ 11) : putE n l = 0 ∧ putV n l = joinV n l := by
  have h0 : treeI [manyM n 0] = true := one_tree (n := manyM n 0) (by rw [node_many hk]; exact hn) hk rfl
  have h1 : l.any (fun v => !partOK v) = false := by
    rw [List.any_eq_false]
    intro x hx
    have hx5 : x.length ≤ 512 := by
      have := flat_len_le hx
      rw [joinV_len] at hlen
      omega
    have : treeI x = true := tre_tree (hl x hx) (by omega) hx5
    simp [partOK, this]
  have ht : treeI (joinV n l) = true := tre_tree (join_tre hn hk hl) (by omega) hlen
  have h3 : putE n l = 0 := by rw [putE_3 h0 h1 (by omega), ht]; rfl
  exact ⟨h3, by unfold putV; rw [if_pos h3]⟩
end Go.Proofs.YtnfokaecobddkaaGreatDoor
end
section
namespace Go.Proofs.YtnfokaecobddkaaGreatDoor
theorem ascii_dec (s : ByteArray) (i : Nat) (h : (s.get! i).toNat < 128) : Utf8.decode s i = ((s.get! i).toNat, 1) := by
  rw [Lib.decode_at]
  unfold Lib.decodeN
  rw [if_pos h]
def seenB (b : UInt8) : Bool := decide (32 ≤ b.toNat ∧ b.toNat < 127)
theorem ascii_at {s : ByteArray} (h : s.data.toList.all seenB = true) {i : Nat} (hi : i < s.size) : 32 ≤ (s.get! i).toNat ∧ (s.get! i).toNat < 127 := by
  have hl : i < s.data.toList.length := hi
  have h1 := List.all_eq_true.1 h _ (List.getElem_mem hl)
  unfold seenB at h1
  rw [decide_eq_true_eq] at h1
  have e : s.get! i = s.data.toList[i] := by
    simp [ByteArray.get!, hi]
  rw [e]
  exact h1
theorem ascii_text {s : ByteArray} (h : s.data.toList.all seenB = true) : textOK s = true := by
  have key : ∀ d i, s.size ≤ i + d → textAt s i = true := by
    intro d
    induction d with
    | zero => intro i hi; exact textAt_end s i (by omega)
    | succ d ih =>
      intro i hi
      rcases Nat.lt_or_ge i s.size with h1 | h1
      · obtain ⟨h2, h3⟩ := ascii_at h h1
        have hd := ascii_dec s i (by omega)
        rw [textAt_step s i h1, hd]
        dsimp only
        rw [ih (i + 1) (by omega), Bool.and_true]
        unfold okAt mayP
        rw [hd]
        dsimp only
        rw [if_neg (by omega)]
        simp only [Bool.and_eq_true, decide_eq_true_eq, Bool.not_eq_true', decide_eq_false_iff_not]
        omega
      · exact textAt_end s i h1
  rw [← textAt_zero]
  exact key s.size 0 (by omega)
theorem ascii_err {s : ByteArray} (h : s.data.toList.all seenB = true) (hs : s.size ≤ 16384) : textErr s = 0 := by
  unfold textErr
  rw [if_neg (by omega), ascii_text h]
  rfl
theorem set_seen {cs : List UInt8} {s : ByteArray} (h : setAll cs s = true) (hc : cs.all seenB = true) : s.data.toList.all seenB = true := by
  rw [List.all_eq_true]
  intro b hb
  have h1 := List.all_eq_true.1 h b hb
  rw [List.contains_iff_mem] at h1
  exact List.all_eq_true.1 hc b h1
theorem app_seen {a b : ByteArray} (ha : a.data.toList.all seenB = true) (hb : b.data.toList.all seenB = true) : (a ++ b).data.toList.all seenB = true := by
  rw [data_app, List.all_append, ha, hb]; rfl
theorem eqS_eq {a b : ByteArray} (h : eqS a b = true) : a = b := by
  unfold eqS at h
  have h := eq_of_beq h
  rw [Lib.toList_data, Lib.toList_data] at h
  exact ba_ext h
theorem attrs_ok {l : List AttrL} (h1 : l.length ≤ 16) (h2 : ∀ a ∈ l, a.space = emB ∧ fullI a.name = true ∧ textErr a.value = 0) (h3 : (l.map fun a => a.name.toList).Nodup) : attrsI l = true := by
  unfold attrsI attrsT
  rw [Bool.and_eq_true, decide_eq_true_eq, List.all_eq_true]
  refine ⟨fun i hi => ?_, h1⟩
  have hi := List.mem_range.1 hi
  rw [List.getElem?_eq_getElem hi]
  obtain ⟨q1, q2, q3⟩ := h2 _ (List.getElem_mem hi)
  show goodA l i l[i] = true
  unfold goodA sndA
  have he : textErr emB = 0 := by decide +kernel
  rw [q1, q2, q3, he]
  have hd : (l.take i).any (dupA l[i]) = false := by
    rw [List.any_eq_false]
    intro b hb
    obtain ⟨j, hj, rfl⟩ := List.mem_iff_getElem.1 hb
    rw [List.length_take] at hj
    rw [List.getElem_take]
    intro hdup
    unfold dupA at hdup
    rw [Bool.and_eq_true] at hdup
    have h5 : l[i].name.toList = l[j].name.toList := eq_of_beq hdup.2
    have h6 := (List.pairwise_iff_getElem.1 h3) j i (by rw [List.length_map]; omega) (by rw [List.length_map]; omega) (by omega)
    rw [List.getElem_map, List.getElem_map] at h6
    exact h6 h5.symm
  rw [hd]
  rfl
def fineL (l : List (ByteArray × ByteArray)) : List AttrL := l.map fun p => ⟨emB, p.1, p.2⟩
theorem fine_ok {l : List (ByteArray × ByteArray)} (ns : List ByteArray) (hn : l.map (·.1) = ns) (h : ns.length ≤ 16 ∧ ns.all fullI = true ∧ (ns.map (·.toList)).Nodup) (h3 : ∀ p ∈ l, textErr p.2 = 0) : attrsI (fineL l) = true := by
  obtain ⟨h1, h2, h4⟩ := h
  subst hn
  refine attrs_ok (by unfold fineL; rw [List.length_map]; rw [List.length_map] at h1; exact h1) (fun a ha => ?_) (by unfold fineL; rw [List.map_map]; rw [List.map_map] at h4; exact h4)
  obtain ⟨p, hp, rfl⟩ := List.mem_map.1 ha
  exact ⟨rfl, List.all_eq_true.1 h2 p.1 (List.mem_map.2 ⟨p, hp, rfl⟩), h3 p hp⟩
end Go.Proofs.YtnfokaecobddkaaGreatDoor
end
