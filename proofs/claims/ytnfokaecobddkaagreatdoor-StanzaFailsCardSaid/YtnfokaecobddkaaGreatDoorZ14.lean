/- Part 14 of a proof laid in parts, one behind the other; no condition of its own. -/
import Derived.Test.YtnfokaecobddkaaGreatDoorZ13
import Derived.Test.YtnfokaecobddkaaGreatDoorZ04
import Derived.Test.YtnfokaecobddkaaGreatDoorZ10
import Derived.Test.YtnfokaecobddkaaGreatDoorZ01
import Derived.Test.YtnfokaecobddkaaGreatDoorZ07
import Derived.Lib.TrimUEq
set_option linter.all false
section
namespace Go.Proofs.YtnfokaecobddkaaGreatDoor
open Go.RowKit
set_option linter.unusedSimpArgs false
set_option linter.unusedVariables false
def buildE (s : StL) : Int := if stnI s then putE (elemS s) s.load else 8
def buildV (s : StL) : List NodeL := if stnI s then putV (elemS s) s.load else []
def BuildPost (s : StL) (w : World) (e : Ending) (w' : World) : Prop :=
  ∃ A c, e = .returned (.tuple #[.slice A (buildV s).length c, .int .i64 (buildE s)]) ∧ (buildV s).length ≤ c ∧ NewV w.heap.size w' A c (buildV s) ∧ Below w.heap.size w w'
theorem BuildPost.no {s : StL} {w w' : World} (h : Below w.heap.size w w') (hs : stnI s = false) : BuildPost s w (.returned (.tuple #[.slice none 0 0, .int .i64 8])) w' := by
  unfold BuildPost buildV buildE
  rw [hs]
  exact ⟨none, 0, rfl, Nat.le_refl _, NewV.nil _ _, h⟩
theorem typed_kind {k : Int} {s : ByteArray} (h : typedI k s = true) : 1 ≤ k ∧ k ≤ 3 := by
  unfold typedI typesOf at h
  split at h
  · omega
  · split at h
    · omega
    · split at h
      · omega
      · cases h
theorem stn_kind {s : StL} (h : stnI s = true) : 1 ≤ s.kind ∧ s.kind ≤ 3 := by
  unfold stnI at h
  simp only [Bool.and_eq_true] at h
  exact typed_kind h.1.1.1.1.1
theorem name_of {k : Int} (h1 : 1 ≤ k) (h2 : k ≤ 3) : kindNames[k.toNat]? = some (wordI k) := by
  have : k = 1 ∨ k = 2 ∨ k = 3 := by omega
  rcases this with rfl | rfl | rfl <;> rfl
theorem elemS_eq (s : StL) : elemS s = mkN (⟨#[106, 97, 98, 98, 101, 114, 58, 99, 108, 105, 101, 110, 116]⟩ : ByteArray) (wordI s.kind) (pairsT [(⟨#[116, 121, 112, 101]⟩ : ByteArray), s.typ, (⟨#[105, 100]⟩ : ByteArray), s.id, (⟨#[102, 114, 111, 109]⟩ : ByteArray), s.frm, (⟨#[116, 111]⟩ : ByteArray), s.to] ([(⟨#[116, 121, 112, 101]⟩ : ByteArray), s.typ, (⟨#[105, 100]⟩ : ByteArray), s.id, (⟨#[102, 114, 111, 109]⟩ : ByteArray), s.frm, (⟨#[116, 111]⟩ : ByteArray), s.to].length / 2)) := by
  have h : ([(⟨#[116, 121, 112, 101]⟩ : ByteArray), s.typ, (⟨#[105, 100]⟩ : ByteArray), s.id, (⟨#[102, 114, 111, 109]⟩ : ByteArray), s.frm, (⟨#[116, 111]⟩ : ByteArray), s.to] : List ByteArray).length / 2 = 4 := by simp
  rw [h]
  rfl
def PtStr (s : ByteArray) : Ty := .inr fun u W => ∃ b off, u = .pointer (some ⟨b, off, none⟩) ∧ b < W.heap.size ∧ W.cell? ⟨b, off, none⟩ = some (.string s)
theorem stable_ptstr (s : ByteArray) : Stable (PtStr s) := fun u W W' h hx => by
  obtain ⟨b, off, h1, h2, h3⟩ := h
  exact ⟨b, off, h1, Nat.lt_of_lt_of_le h2 hx.size, (hx.cell (p := ⟨b, off, none⟩) h2).trans h3⟩
def ElT (n : NodeL) : Ty := .inr fun u W => ∃ A c, u = encN n A c ∧ n.attrs.length ≤ c ∧ RdA W W.heap.size A n.attrs
theorem stable_elt (n : NodeL) : Stable (ElT n) := fun u W W' h hx => by
  obtain ⟨A, c, h1, h2, h3⟩ := h
  exact ⟨A, c, h1, h2, (h3.below hx (Nat.le_refl _)).more hx.size⟩
def NwT (base : Nat) (v : List NodeL) : Ty := .inr fun u W => ∃ A c, u = .slice A v.length c ∧ v.length ≤ c ∧ NewV base W A c v
theorem stable_nwt (base : Nat) (v : List NodeL) : Stable (NwT base v) := fun u W W' h hx => by
  obtain ⟨A, c, h1, h2, h3⟩ := h
  exact ⟨A, c, h1, h2, h3.ext hx⟩
def NwE (base : Nat) (v : List NodeL) (q : Int) : Ty := .inr fun u W => ∃ A c, u = .tuple #[.slice A v.length c, .int .i64 q] ∧ v.length ≤ c ∧ NewV base W A c v
theorem stable_nwe (base : Nat) (v : List NodeL) (q : Int) : Stable (NwE base v q) := fun u W W' h hx => by
  obtain ⟨A, c, h1, h2, h3⟩ := h
  exact ⟨A, c, h1, h2, h3.ext hx⟩
section
variable {ops : Array Oper} {w0 : World} {Fin : List Ty → Prop} {rest : List Oper} {E : Env} {Ts : List Ty} {o : Oper}
theorem tw_ixNm {m : Tmp} {x : Operand} {k : Int} {s : ByteArray} (h0 : 0 ≤ k) (h1 : k < 256) (hk : kindNames[k.toNat]? = some s) (hop : o.op = .indexAddr 44 (.tmp m) x) (hE : E m = SlS kindNames) (hx : evalE E x = some (.int .u8 k)) (hw : Wd ops o E true)
    (hr : wpT Tryz.prog ops w0 Fin rest (E.put o.dst (PtStr s)) (PtStr s :: Ts)) : wpT Tryz.prog ops w0 Fin (o :: rest) E Ts :=
  tw_val (PtStr s) (stable_ptstr s) hw (fun a W hW hs => by
    have q := hs m (looks_of (x := .tmp m) (by rw [hop]; simp [Op.operands]) rfl)
    rw [hE] at q
    obtain ⟨A, c, e1, e2⟩ := q
    have g1 : a.eval (.tmp m) = .slice A kindNames.length c := e1
    have g2 : a.eval x = .int .u8 k := evalE_of hx (by rw [hop]; simp [Op.operands]) hs
    obtain ⟨b, off, rfl, hb, hc⟩ := e2 (by decide)
    have hlt := (List.getElem?_eq_some_iff.1 hk).1
    have h4 : kindNames.length = 4 := rfl
    rw [h4] at g1 hlt
    have hk4 : k < 4 := by omega
    refine ⟨.pointer (some ⟨b, off + k.toNat, none⟩), W, ?_, Ext.refl _, b, off + k.toNat, rfl, hb, hc _ _ hk⟩
    clear hs hr e1
    generalize a.eval = ρ at *
    unfold execOp
    simp only [hop, g1, g2]
    go_simp) hr
theorem tw_ldPt {m : Tmp} {s : ByteArray} (hop : o.op = .load 9 (.tmp m)) (hE : E m = PtStr s) (hw : Wd ops o E true)
    (hr : wpT Tryz.prog ops w0 Fin rest (E.put o.dst (.inl (.string s))) (.inl (.string s) :: Ts)) : wpT Tryz.prog ops w0 Fin (o :: rest) E Ts :=
  tw_pure (.string s) hw (fun a W hW hs => by
    have q := hs m (looks_of (x := .tmp m) (by rw [hop]; simp [Op.operands]) rfl)
    rw [hE] at q
    obtain ⟨b, off, e1, e2, e3⟩ := q
    have g1 : a.eval (.tmp m) = .pointer (some ⟨b, off, none⟩) := e1
    clear hs hr
    generalize a.eval = ρ at *
    unfold execOp
    simp only [hop, g1]
    go_simp) hr
theorem tw_str8 {x0 x1 x2 x3 x4 x5 x6 x7 : Operand} (s0 s1 s2 s3 s4 s5 s6 s7 : ByteArray) (hop : o.op = .buildSlice 44 8 #[(0, x0), (1, x1), (2, x2), (3, x3), (4, x4), (5, x5), (6, x6), (7, x7)])
    (h0 : evalE E x0 = some (.string s0)) (h1 : evalE E x1 = some (.string s1)) (h2 : evalE E x2 = some (.string s2)) (h3 : evalE E x3 = some (.string s3)) (h4 : evalE E x4 = some (.string s4)) (h5 : evalE E x5 = some (.string s5)) (h6 : evalE E x6 = some (.string s6)) (h7 : evalE E x7 = some (.string s7)) (hw : Wd ops o E true)
    (hr : wpT Tryz.prog ops w0 Fin rest (E.put o.dst (SlS [s0, s1, s2, s3, s4, s5, s6, s7])) (SlS [s0, s1, s2, s3, s4, s5, s6, s7] :: Ts)) : wpT Tryz.prog ops w0 Fin (o :: rest) E Ts :=
  tw_val (SlS [s0, s1, s2, s3, s4, s5, s6, s7]) (stable_sls _) hw (fun a W hW hs => by
    have e0 : a.eval x0 = _ := evalE_of h0 (by rw [hop]; simp [Op.operands]) hs
    have e1 : a.eval x1 = _ := evalE_of h1 (by rw [hop]; simp [Op.operands]) hs
    have e2 : a.eval x2 = _ := evalE_of h2 (by rw [hop]; simp [Op.operands]) hs
    have e3 : a.eval x3 = _ := evalE_of h3 (by rw [hop]; simp [Op.operands]) hs
    have e4 : a.eval x4 = _ := evalE_of h4 (by rw [hop]; simp [Op.operands]) hs
    have e5 : a.eval x5 = _ := evalE_of h5 (by rw [hop]; simp [Op.operands]) hs
    have e6 : a.eval x6 = _ := evalE_of h6 (by rw [hop]; simp [Op.operands]) hs
    have e7 : a.eval x7 = _ := evalE_of h7 (by rw [hop]; simp [Op.operands]) hs
    refine ⟨.slice (some ⟨W.heap.size, 0, none⟩) 8 8, W.alloc (.cells #[.string s0, .string s1, .string s2, .string s3, .string s4, .string s5, .string s6, .string s7] 9), ?_, (Below.refl _ W).alloc (Nat.le_refl _) _, some ⟨W.heap.size, 0, none⟩, 8, rfl, ?_⟩
    · clear hs hr
      generalize a.eval = ρ at *
      unfold execOp
      simp only [hop, List.map_toArray, List.map_cons, List.map_nil, e0, e1, e2, e3, e4, e5, e6, e7]
      go_simp
    · exact RdS.new W 9 [s0, s1, s2, s3, s4, s5, s6, s7]) hr
theorem tw_elem {x y : Operand} {m : Tmp} {ts : Array TypeId} (space name : ByteArray) (ps : List ByteArray) (n : NodeL) (hn : n = mkN space name (pairsT ps (ps.length / 2))) (hl : ps.length ≤ 100)
    (hop : o.op = .call { callee := .value (.func 28), args := #[x, y, .tmp m], argTypes := ts }) (hx : evalE E x = some (.string space)) (hy : evalE E y = some (.string name)) (hE : E m = SlS ps) (hw : Wd ops o E true)
    (hr : wpT Tryz.prog ops w0 Fin rest (E.put o.dst (ElT n)) (ElT n :: Ts)) : wpT Tryz.prog ops w0 Fin (o :: rest) E Ts :=
  tw_call (ElT n) (stable_elt n) hw (fun a W hW hs => by
    have q := hs m (looks_of (x := .tmp m) (by rw [hop]; simp [Op.operands, Call.operands]) rfl)
    rw [hE] at q
    obtain ⟨A, c, e1, e2⟩ := q
    have g0 : a.eval (.tmp m) = .slice A ps.length c := e1
    have g1 : a.eval x = .string space := evalE_of hx (by rw [hop]; simp [Op.operands, Call.operands]) hs
    have g2 : a.eval y = .string name := evalE_of hy (by rw [hop]; simp [Op.operands, Call.operands]) hs
    have e0 : a.eval (.func 28) = .func (.func 28) #[] #[] := rfl
    have hcf := enters_of (P := Tryz.prog) Tryz.func28 (by kernel_rfl) rfl #[.string space, .string name, .slice A ps.length c] W
    refine ⟨28, #[.string space, .string name, .slice A ps.length c], ?_, (elem_any space name ps A c W e2 hl).mono fun e w' h => ?_⟩
    · unfold execOp
      simp only [hop, resolve, e0, Deferred.ofValue, List.map_toArray, List.map_cons, List.map_nil, g0, g1, g2, Sem.run_bind, Sem.run_pure, Result.andThen_ok, invoke, Array.append_empty, Array.empty_append, hcf]
    · obtain ⟨A', c', h1, h2, h3, h4⟩ := h
      subst hn
      exact ⟨_, h1, h4, A', c', rfl, h2, h3.rda⟩) hr
theorem tw_put {m : Tmp} {y : Operand} {ts : Array TypeId} (base : Nat) (n : NodeL) (l : List (List NodeL)) (Al : Option Addr) (cl : Nat) (hb : base ≤ w0.heap.size) (hzn : SzN 1000000000 n) (hz : SzW l) (hl : ∀ W, Ext w0 W → RdW W W.heap.size Al l)
    (hop : o.op = .call { callee := .value (.func 27), args := #[.tmp m, y], argTypes := ts }) (hE : E m = ElT n) (hy : evalE E y = some (.slice Al l.length cl)) (hw : Wd ops o E true)
    (hr : wpT Tryz.prog ops w0 Fin rest (E.put o.dst (NwE base (putV n l) (putE n l))) (NwE base (putV n l) (putE n l) :: Ts)) : wpT Tryz.prog ops w0 Fin (o :: rest) E Ts :=
  tw_call (NwE base (putV n l) (putE n l)) (stable_nwe _ _ _) hw (fun a W hW hs => by
    have q := hs m (looks_of (x := .tmp m) (by rw [hop]; simp [Op.operands, Call.operands]) rfl)
    rw [hE] at q
    obtain ⟨A, c, e1, e2, e3⟩ := q
    have g0 : a.eval (.tmp m) = encN n A c := e1
    have g1 : a.eval y = .slice Al l.length cl := evalE_of hy (by rw [hop]; simp [Op.operands, Call.operands]) hs
    have e0 : a.eval (.func 27) = .func (.func 27) #[] #[] := rfl
    have hcf := enters_of (P := Tryz.prog) Tryz.func27 (by kernel_rfl) rfl #[encN n A c, .slice Al l.length cl] W
    refine ⟨27, #[encN n A c, .slice Al l.length cl], ?_, (put_node n A c l Al cl W hzn e3 e2 hz (hl W hW)).mono fun e w' h => ?_⟩
    · unfold execOp
      simp only [hop, resolve, e0, Deferred.ofValue, List.map_toArray, List.map_cons, List.map_nil, g0, g1, Sem.run_bind, Sem.run_pure, Result.andThen_ok, invoke, Array.append_empty, Array.empty_append, hcf]
    · obtain ⟨A', c', h1, h2, h3, h4⟩ := h
      exact ⟨_, h1, h4, A', c', rfl, h2, h3.mono (Nat.le_trans hb hW.size)⟩) hr
theorem tw_ex0 {m : Tmp} {base : Nat} {v : List NodeL} {q : Int} (hop : o.op = .extract (.tmp m) 0) (hE : E m = NwE base v q) (hw : Wd ops o E true)
    (hr : wpT Tryz.prog ops w0 Fin rest (E.put o.dst (NwT base v)) (NwT base v :: Ts)) : wpT Tryz.prog ops w0 Fin (o :: rest) E Ts :=
  tw_val (NwT base v) (stable_nwt _ _) hw (fun a W hW hs => by
    have q := hs m (looks_of (x := .tmp m) (by rw [hop]; simp [Op.operands]) rfl)
    rw [hE] at q
    obtain ⟨A, c, e1, e2, e3⟩ := q
    have g0 : a.eval (.tmp m) = _ := e1
    refine ⟨.slice A v.length c, W, ?_, Ext.refl _, A, c, rfl, e2, e3⟩
    clear hs hr
    generalize a.eval = ρ at *
    unfold execOp
    simp only [hop, g0]
    go_simp) hr
theorem tw_ex1 {m : Tmp} {base : Nat} {v : List NodeL} {q : Int} (hop : o.op = .extract (.tmp m) 1) (hE : E m = NwE base v q) (hw : Wd ops o E true)
    (hr : wpT Tryz.prog ops w0 Fin rest (E.put o.dst (.inl (.int .i64 q))) (.inl (.int .i64 q) :: Ts)) : wpT Tryz.prog ops w0 Fin (o :: rest) E Ts :=
  tw_pure (.int .i64 q) hw (fun a W hW hs => by
    have q := hs m (looks_of (x := .tmp m) (by rw [hop]; simp [Op.operands]) rfl)
    rw [hE] at q
    obtain ⟨A, c, e1, e2, e3⟩ := q
    have g0 : a.eval (.tmp m) = _ := e1
    clear hs hr
    generalize a.eval = ρ at *
    unfold execOp
    simp only [hop, g0]
    go_simp) hr
end
set_option maxHeartbeats 2000000 in
set_option maxRecDepth 10000 in
theorem build_any (s : StL) (A : Option Addr) (c : Nat) (w : World) (hz : SzS s) (hr : RdW w w.heap.size A s.load) (hg : Glb w) :
    Calls Tryz.prog 10 #[encS s A c] w (BuildPost s w) := by
  obtain ⟨W0, hW0⟩ : ∃ W0, W0 = w.alloc (.cells #[.int .u8 s.kind, .string s.typ, .string s.id, .string s.frm, .string s.to, .slice A s.load.length c] 24) := ⟨_, rfl⟩
  have hX0 : Below w.heap.size w W0 := by rw [hW0]; exact (Below.refl _ _).alloc (Nat.le_refl _) _
  have hS0 : SAt W0 w.heap.size s A c := by rw [hW0]; exact SAt.new _ _ _ _ _
  have HM := Lib.hid (scheck_any s A c W0 hz (RdW.ext hr hX0) (hg.below hX0))
  have HEE : Box (stnErr s = if stnI s then 0 else 8) := ⟨rfl⟩
  have HR := Lib.hid hr
  have HZ := Lib.hid hz
  have HX0 := Lib.hid hX0
  have HS := Lib.hid hS0
  have a0 := hS0.c0
  have a1 := hS0.c1
  have a2 := hS0.c2
  have a3 := hS0.c3
  have a4 := hS0.c4
  have a5 := hS0.c5
  rw [hW0] at a0 a1 a2 a3 a4 a5
  have HW0 := Lib.hid hW0
  clear hW0 hX0 hS0 hr hz hg
  unfold encS at *
  generalize stnErr s = q at *
  cases hst : stnI s
  all_goals
    rw [hst] at HEE
    have he := HEE.out
    try simp only [Bool.false_eq_true, if_false] at he
    try simp only [if_true] at he
    subst he
    have HST := Lib.hid hst
    clear hst HEE
    go_enter Tryz.func10, Tryz.ntmps10
    go_wp2_with fail
    rw [← HW0.out]
    refine HM.out.mono ?_
    rintro e w1 ⟨rfl, hb1⟩
    have X1 := Lib.hid (HX0.out.trans (hb1.mono HX0.out.size))
    have S1 := Lib.hid (HS.out.ext hb1)
    clear hb1 a0 a1 a2 a3 a4 a5
  · go_wp2
    go_ret2
    exact BuildPost.no X1.out HST.out
  · have hk := stn_kind HST.out
    have HKN := Lib.hid (name_of hk.1 hk.2)
    go_wp2_with fail
    have G := Lib.hid (fun W (hW : Ext w1.drew W) => S1.out.ext (ext_below hW))
    have GR := Lib.hid (fun W (hW : Ext w1.drew W) => RdW.ext HR.out (X1.out.trans ((ext_below hW).mono X1.out.size)))
    have G0 := Lib.hid (fun W hW => (G.out W hW).c0)
    have G1 := Lib.hid (fun W hW => (G.out W hW).c1)
    have G2 := Lib.hid (fun W hW => (G.out W hW).c2)
    have G3 := Lib.hid (fun W hW => (G.out W hW).c3)
    have G4 := Lib.hid (fun W hW => (G.out W hW).c4)
    have G5 := Lib.hid (fun W hW => (G.out W hW).c5)
    have HSN := Lib.hid (elemS_sz HZ.out)
    refine wp_region_typed rfl (by kernel_rfl) (by kernel_rfl) ?_
    repeat (first | refine tw_names rfl (by first | exact wd_none rfl | exact wd_yes rfl rfl rfl) ?_ | refine tw_ixNm (by omega) (by omega) HKN.out rfl rfl rfl (by first | exact wd_none rfl | exact wd_yes rfl rfl rfl) ?_ | refine tw_ldPt rfl rfl (by first | exact wd_none rfl | exact wd_yes rfl rfl rfl) ?_ | refine tw_ldU rfl rfl G0.out (by first | exact wd_none rfl | exact wd_yes rfl rfl rfl) ?_ | refine tw_ldS rfl rfl G1.out (by first | exact wd_none rfl | exact wd_yes rfl rfl rfl) ?_ | refine tw_ldS rfl rfl G2.out (by first | exact wd_none rfl | exact wd_yes rfl rfl rfl) ?_ | refine tw_ldS rfl rfl G3.out (by first | exact wd_none rfl | exact wd_yes rfl rfl rfl) ?_ | refine tw_ldS rfl rfl G4.out (by first | exact wd_none rfl | exact wd_yes rfl rfl rfl) ?_ | refine tw_ldW rfl rfl G5.out (by first | exact wd_none rfl | exact wd_yes rfl rfl rfl) ?_ | refine tw_str8 _ _ _ _ _ _ _ _ rfl rfl rfl rfl rfl rfl rfl rfl rfl (by first | exact wd_none rfl | exact wd_yes rfl rfl rfl) ?_ | refine tw_elem (⟨#[106, 97, 98, 98, 101, 114, 58, 99, 108, 105, 101, 110, 116]⟩ : ByteArray) (wordI s.kind) [(⟨#[116, 121, 112, 101]⟩ : ByteArray), s.typ, (⟨#[105, 100]⟩ : ByteArray), s.id, (⟨#[102, 114, 111, 109]⟩ : ByteArray), s.frm, (⟨#[116, 111]⟩ : ByteArray), s.to] (elemS s) (elemS_eq s) (by simp) rfl rfl rfl rfl (by first | exact wd_none rfl | exact wd_yes rfl rfl rfl) ?_ | refine tw_put w.heap.size (elemS s) s.load A c X1.out.size HSN.out HZ.out.2.2.2.2.2 GR.out rfl rfl rfl (by first | exact wd_none rfl | exact wd_yes rfl rfl rfl) ?_ | refine tw_ex0 rfl rfl (by first | exact wd_none rfl | exact wd_yes rfl rfl rfl) ?_ | refine tw_ex1 rfl rfl (by first | exact wd_none rfl | exact wd_yes rfl rfl rfl) ?_ | refine tw_move (NwT _ _) (stable_nwt _ _) (.inr rfl) rfl (by first | exact wd_none rfl | exact wd_yes rfl rfl rfl) ?_ | refine tw_skip (wd_no rfl rfl rfl) ?_ | refine tw_mv (.inl rfl) rfl (by first | exact wd_none rfl | exact wd_yes rfl rfl rfl) ?_ | refine tw_mv (.inr rfl) rfl (by first | exact wd_none rfl | exact wd_yes rfl rfl rfl) ?_ | refine tw_pickL rfl rfl rfl (by first | exact wd_none rfl | exact wd_yes rfl rfl rfl) ?_ | refine tw_op1 _ rfl rfl (by first | exact wd_none rfl | exact wd_yes rfl rfl rfl) (fun ρ W hW h1 => by simp only [execOp, h1]; go_simp; first | done | rfl) ?_ | refine tw_op2 _ rfl rfl rfl (by first | exact wd_none rfl | exact wd_yes rfl rfl rfl) (fun ρ W hW h1 h2 => by simp only [execOp, h1, h2]; go_simp; first | done | rfl) ?_)
    dsimp only [wpT, List.reverse, List.reverseAux, FinT, SlS, PtStr, ElT, NwE, NwT]
    intro v0 v1 v2 v3 v4 v5 v6 W9 hW9 hh
    obtain ⟨A9, c9, rfl, hl9, hn9⟩ := hh.2
    simp only [Act.put, List.setIfInBounds_toArray, List.set_cons_zero, List.set_cons_succ]
    have X9 := Lib.hid (X1.out.trans ((ext_below hW9).mono X1.out.size))
    have N9 := Lib.hid hn9
    have L9 := Lib.hid hl9
    clear hh hl9 hn9 hW9 G GR G0 G1 G2 G3 G4 G5
    go_wp2
    go_ret2
    unfold BuildPost buildV buildE
    rw [HST.out]
    exact ⟨A9, c9, rfl, L9.out, N9.out, X9.out⟩
end Go.Proofs.YtnfokaecobddkaaGreatDoor
end
section
namespace Go.Proofs.YtnfokaecobddkaaGreatDoor
def errL : ByteArray := (⟨#[117, 114, 110, 58, 105, 101, 116, 102, 58, 112, 97, 114, 97, 109, 115, 58, 120, 109, 108, 58, 110, 115, 58, 120, 109, 112, 112, 45, 115, 116, 97, 110, 122, 97, 115]⟩ : ByteArray)
def errN (word : ByteArray) : NodeL := ⟨1, errL, word, [], emB, 0⟩
def errH (k : Int) : NodeL := ⟨1, (⟨#[106, 97, 98, 98, 101, 114, 58, 99, 108, 105, 101, 110, 116]⟩ : ByteArray), (⟨#[101, 114, 114, 111, 114]⟩ : ByteArray), [⟨emB, (⟨#[116, 121, 112, 101]⟩ : ByteArray), (⟨#[99, 97, 110, 99, 101, 108]⟩ : ByteArray)⟩], emB, k⟩
def failV (word : ByteArray) : List NodeL := [errH 1, errN word]
def failS (s : StL) (word : ByteArray) : StL := ⟨s.kind, (⟨#[101, 114, 114, 111, 114]⟩ : ByteArray), s.id, s.to, s.frm, [failV word]⟩
def mayF (s : StL) : Bool := !(s.typ.toList == [101, 114, 114, 111, 114]) && (!decide (s.kind = 3) || !(s.typ.toList == [114, 101, 115, 117, 108, 116]))
def failE (s : StL) (word : ByteArray) : Int := if stnI s then (if mayF s && nameI word then 0 else 2) else 8
def failR (s : StL) (word : ByteArray) : StL := if stnI s then (if mayF s && nameI word then failS s word else emS) else emS
theorem name_no58 {s : ByteArray} (h : nameI s = true) : fstL (numsOf s) 58 = none := by
  refine fstL_not fun k x hx e => ?_
  subst e
  unfold nameI nameL at h
  cases hn : numsOf s with
  | nil => rw [hn] at hx; simp at hx
  | cons c t =>
    rw [hn] at h hx
    simp only [Bool.and_eq_true, List.all_eq_true] at h
    cases k with
    | zero =>
      simp at hx
      subst hx
      exact absurd h.1 (by decide)
    | succ k =>
      have := h.2 58 (List.mem_of_getElem? (by simpa using hx))
      exact absurd this (by decide)
theorem full_name {s : ByteArray} (h : nameI s = true) : fullI s = true := by
  unfold fullI
  rw [name_no58 h]
  exact h
theorem errN_ok {word : ByteArray} (h : nameI word = true) : nodeI (errN word) = true := by
  have h1 : textErr errL = 0 := by decide +kernel
  unfold nodeI errN
  simp only [show ¬ ((1 : Int) = 2) by omega, if_false, full_name h, h1]
  decide
theorem errH_ok (k : Int) : nodeI (errH k) = true := by
  have h : nodeI (errH 0) = true := by decide +kernel
  exact h
theorem one_tree {n : NodeL} (h : nodeI n = true) (h1 : n.kind = 1) (h2 : n.many = 0) : treeI [n] = true := by
  unfold treeI endN endK
  simp [h, h1, h2]
theorem fail_tree {word : ByteArray} (h : nameI word = true) : treeI (failV word) = true := by
  have h1 := errN_ok h
  have h2 := errH_ok 1
  have e1 : endN (failV word) 11 1 = some 2 := by
    unfold endN
    show (match (some (errN word) : Option NodeL) with | none => none | some n => if nodeI n = true ∧ 0 ≤ n.many then endK (endN (failV word) 10) (failV word) n.many.toNat (1 + 1) false else none) = some 2
    simp only [h1]
    rfl
  have e2 : endN (failV word) 12 0 = some 2 := by
    unfold endN
    show (match (some (errH 1) : Option NodeL) with | none => none | some n => if nodeI n = true ∧ 0 ≤ n.many then endK (endN (failV word) 11) (failV word) n.many.toNat (0 + 1) false else none) = some 2
    simp only [h2]
    show (if True ∧ (0 : Int) ≤ 1 then endK (endN (failV word) 11) (failV word) 1 1 false else none) = some 2
    rw [if_pos ⟨True.intro, by omega⟩]
    unfold endK
    show (match (some (errN word) : Option NodeL) with | none => none | some n => if (false && decide (n.kind = 2)) = true then none else match endN (failV word) 11 1 with | none => none | some e => endK (endN (failV word) 11) (failV word) 0 e (decide (n.kind = 2))) = some 2
    rw [e1]
    rfl
  refine treeI_yes (n := errH 1) (by show 2 ≤ 512; omega) rfl rfl e2
theorem put_fail {word : ByteArray} (h : nameI word = true) : putE (errH 0) [[errN word]] = 0 ∧ putV (errH 0) [[errN word]] = failV word := by
  have h0 : treeI [manyM (errH 0) 0] = true := one_tree (n := errH 0) (errH_ok 0) rfl rfl
  have h1 : ([[errN word]] : List (List NodeL)).any (fun v => !partOK v) = false := by
    have : treeI [errN word] = true := one_tree (errN_ok h) rfl rfl
    simp [partOK, this]
  have hj : joinV (errH 0) [[errN word]] = failV word := rfl
  have h2 : ¬ 512 < (joinV (errH 0) [[errN word]]).length := by rw [hj]; show ¬ 512 < 2; omega
  have h3 : putE (errH 0) [[errN word]] = 0 := by rw [putE_3 h0 h1 h2, hj, fail_tree h]; rfl
  exact ⟨h3, by unfold putV; rw [if_pos h3, hj]⟩
end Go.Proofs.YtnfokaecobddkaaGreatDoor
end
section
namespace Go.Proofs.YtnfokaecobddkaaGreatDoor
end Go.Proofs.YtnfokaecobddkaaGreatDoor
end
section
namespace Go.Proofs.YtnfokaecobddkaaGreatDoor
def isDig (c : Int) : Bool := decide (48 ≤ c ∧ c ≤ 57)
def valK (l : List Int) : Nat → Int
  | 0 => 0
  | k + 1 => 10 * valK l k + (l.getD k 0 - 48)
def digK (l : List Int) (k : Nat) : Bool := (List.range k).all fun i => isDig (l.getD i 0)
def headOK (s : ByteArray) : Bool := !decide (s.size = 0) && !decide (16 < s.size) && !(decide ((numsOf s).getD 0 0 = 48) && !decide (s.size = 1))
def numOK (s : ByteArray) : Bool := headOK s && digK (numsOf s) s.size && !decide (9007199254740991 < valK (numsOf s) s.size)
def numV (s : ByteArray) : Int := if numOK s then valK (numsOf s) s.size else 0
def numE (s : ByteArray) : Int := if numOK s then 0 else 60
theorem num_no {s : ByteArray} (h : numOK s = false) : numV s = 0 ∧ numE s = 60 := by unfold numV numE; rw [h]; exact ⟨rfl, rfl⟩
theorem num_yes {s : ByteArray} (h : numOK s = true) : numV s = valK (numsOf s) s.size ∧ numE s = 0 := by unfold numV numE; rw [h]; exact ⟨rfl, rfl⟩
def levT (s : ByteArray) : ByteArray := if (numsOf s).getD 0 0 = 45 then s.extract 1 s.size else s
def levS (s : ByteArray) : Int := if (numsOf s).getD 0 0 = 45 then -1 else 1
def levOK (s : ByteArray) : Bool := numOK (levT s) && decide (-128 ≤ levS s * numV (levT s) ∧ levS s * numV (levT s) ≤ 127) && !(decide (levS s < 0) && decide (numV (levT s) = 0))
def levV (s : ByteArray) : Int := if levOK s then levS s * numV (levT s) else 0
def levE (s : ByteArray) : Int := if levOK s then 0 else 60
end Go.Proofs.YtnfokaecobddkaaGreatDoor
end
section
namespace Go.Proofs.YtnfokaecobddkaaGreatDoor
end Go.Proofs.YtnfokaecobddkaaGreatDoor
end
section
namespace Go.Proofs.YtnfokaecobddkaaGreatDoor
structure ItemL where
  jid : ByteArray
  name : ByteArray
  groups : List ByteArray
  to : Bool
  out : Bool
  frm : Bool
  inn : Bool
  known : Bool
theorem endK_in {f g : Nat → Option Nat} {v u : List NodeL} {k : Nat} (hu : ∀ i, i < u.length → v[k + i]? = u[i]?) (hf : ∀ i e, g i = some e → f (k + i) = some (k + e)) :
    ∀ (n i : Nat) (t : Bool) (e : Nat), endK g u n i t = some e → endK f v n (k + i) t = some (k + e)
  | 0, i, t, e, h => by
    simp only [endK, Option.some.injEq] at h ⊢
    omega
  | n + 1, i, t, e, h => by
    rw [endK] at h
    split at h
    · cases h
    · rename_i x hx
      split at h
      · cases h
      · rename_i hc
        split at h
        · cases h
        · rename_i e1 he1
          rw [endK, hu i (List.getElem?_eq_some_iff.1 hx).1, hx]
          simp only
          rw [if_neg hc, hf i e1 he1]
          exact endK_in hu hf n e1 _ e h
theorem endN_in {v u : List NodeL} {k : Nat} (hu : ∀ i, i < u.length → v[k + i]? = u[i]?) : ∀ (d i e : Nat), endN u d i = some e → endN v d (k + i) = some (k + e)
  | 0, i, e, h => by
    rw [endN] at h ⊢
    cases hx : u[i]? with
    | none => rw [hx] at h; cases h
    | some n =>
      rw [hu i (List.getElem?_eq_some_iff.1 hx).1, hx]
      rw [hx] at h
      simp only at h ⊢
      by_cases hc : nodeI n = true ∧ n.kind = 2
      · rw [if_pos hc] at h ⊢
        simp only [Option.some.injEq] at h ⊢
        omega
      · rw [if_neg hc] at h; cases h
  | d + 1, i, e, h => by
    rw [endN] at h ⊢
    cases hx : u[i]? with
    | none => rw [hx] at h; cases h
    | some n =>
      rw [hu i (List.getElem?_eq_some_iff.1 hx).1, hx]
      rw [hx] at h
      simp only at h ⊢
      by_cases hc : nodeI n = true ∧ 0 ≤ n.many
      · rw [if_pos hc] at h ⊢
        rw [Nat.add_assoc]
        exact endK_in hu (endN_in hu d) _ (i + 1) false e h
      · rw [if_neg hc] at h; cases h
def Tre (d : Nat) (x : List NodeL) : Prop := endN x d 0 = some x.length ∧ ∃ n r, x = n :: r ∧ n.kind = 1
theorem endK_join {v : List NodeL} {d : Nat} : ∀ (l : List (List NodeL)) (pre : List NodeL), v = pre ++ l.flatten → (∀ x ∈ l, Tre d x) → ∀ t, endK (endN v d) v l.length pre.length t = some (pre.length + l.flatten.length)
  | [], pre, hv, _, t => by simp [endK]
  | x :: l, pre, hv, hl, t => by
    obtain ⟨h1, n, r, rfl, hk⟩ := hl x (by simp)
    have hv2 : v = (pre ++ (n :: r)) ++ l.flatten := by rw [hv, List.flatten_cons, List.append_assoc]
    have hu : ∀ i, i < (n :: r).length → v[pre.length + i]? = (n :: r)[i]? := fun i hi => by
      rw [hv, List.flatten_cons, List.getElem?_append_right (by omega), Nat.add_sub_cancel_left, List.getElem?_append_left hi]
    have e0 := endN_in hu d 0 _ h1
    rw [Nat.add_zero] at e0
    have hn : v[pre.length]? = some n := by
      have := hu 0 (by simp)
      rw [Nat.add_zero] at this
      rw [this]; rfl
    have hc : ¬ (t && decide (n.kind = 2)) = true := by
      rw [hk]
      cases t <;> decide
    rw [List.length_cons, endK, hn]
    simp only
    rw [if_neg hc, e0]
    simp only
    have ih := endK_join l (pre ++ (n :: r)) hv2 (fun y hy => hl y (by simp [hy])) (decide (n.kind = 2))
    rw [List.length_append] at ih
    rw [ih, List.flatten_cons, List.length_append, Nat.add_assoc]
theorem node_many {n : NodeL} (hk : n.kind = 1) (k : Int) : nodeI (manyM n k) = nodeI n := by
  unfold nodeI manyM
  simp [hk]
theorem join_tre {n : NodeL} {l : List (List NodeL)} {d : Nat} (hn : nodeI n = true) (hk : n.kind = 1) (hl : ∀ x ∈ l, Tre d x) : Tre (d + 1) (joinV n l) := by
  refine ⟨?_, manyM n l.length, l.flatten, rfl, hk⟩
  rw [endN]
  show (match (some (manyM n l.length) : Option NodeL) with | none => none | some m => if nodeI m = true ∧ 0 ≤ m.many then endK (endN (joinV n l) d) (joinV n l) m.many.toNat (0 + 1) false else none) = _
  simp only
  rw [if_pos ⟨by rw [node_many hk]; exact hn, by show (0 : Int) ≤ (l.length : Int); omega⟩]
  have h := endK_join (v := joinV n l) (d := d) l [manyM n l.length] rfl hl false
  rw [joinV_len]
  exact h
theorem tre_tree {d : Nat} {x : List NodeL} (h : Tre d x) (hd : d ≤ 12) (hl : x.length ≤ 512) : treeI x = true := by
  obtain ⟨h1, n, r, rfl, hk⟩ := h
  exact treeI_yes (n := n) hl rfl hk (endN_more _ hd h1)
theorem flat_len_le {l : List (List NodeL)} {x : List NodeL} (h : x ∈ l) : x.length ≤ l.flatten.length := by
  induction l with
  | nil => cases h
  | cons y l ih =>
    rw [List.flatten_cons, List.length_append]
    rcases List.mem_cons.1 h with rfl | h
    · omega
    · have := ih h; omega
theorem put_ok {n : NodeL} {l : List (List NodeL)} {d : Nat} (hn : nodeI n = true) (hk : n.kind = 1) (hl : ∀ x ∈ l, Tre d x) (hlen : (joinV n l).length ≤ 512) (hd : d ≤ 11) : putE n l = 0 ∧ putV n l = joinV n l := by
  have h0 : treeI [manyM n 0] = true := one_tree (n := manyM n 0) (by rw [node_many hk]; exact hn) hk rfl
  have h1 : l.any (fun v => !partOK v) = false := by
    rw [List.any_eq_false]
    intro x hx
    have hx5 : x.length ≤ 512 := by
      have := flat_len_le hx
      rw [joinV_len] at hlen
      omega
    have : treeI x = true := tre_tree (hl x hx) (by omega) hx5
    simp [partOK, this]
  have ht : treeI (joinV n l) = true := tre_tree (join_tre hn hk hl) (by omega) hlen
  have h3 : putE n l = 0 := by rw [putE_3 h0 h1 (by omega), ht]; rfl
  exact ⟨h3, by unfold putV; rw [if_pos h3]⟩
end Go.Proofs.YtnfokaecobddkaaGreatDoor
end
section
namespace Go.Proofs.YtnfokaecobddkaaGreatDoor
theorem ascii_dec (s : ByteArray) (i : Nat) (h : (s.get! i).toNat < 128) : Utf8.decode s i = ((s.get! i).toNat, 1) := by
  rw [Lib.decode_at]
  unfold Lib.decodeN
  rw [if_pos h]
def seenB (b : UInt8) : Bool := decide (32 ≤ b.toNat ∧ b.toNat < 127)
theorem ascii_at {s : ByteArray} (h : s.data.toList.all seenB = true) {i : Nat} (hi : i < s.size) : 32 ≤ (s.get! i).toNat ∧ (s.get! i).toNat < 127 := by
  have hl : i < s.data.toList.length := hi
  have h1 := List.all_eq_true.1 h _ (List.getElem_mem hl)
  unfold seenB at h1
  rw [decide_eq_true_eq] at h1
  have e : s.get! i = s.data.toList[i] := by
    simp [ByteArray.get!, hi]
  rw [e]
  exact h1
theorem ascii_text {s : ByteArray} (h : s.data.toList.all seenB = true) : textOK s = true := by
  have key : ∀ d i, s.size ≤ i + d → textAt s i = true := by
    intro d
    induction d with
    | zero => intro i hi; exact textAt_end s i (by omega)
    | succ d ih =>
      intro i hi
      rcases Nat.lt_or_ge i s.size with h1 | h1
      · obtain ⟨h2, h3⟩ := ascii_at h h1
        have hd := ascii_dec s i (by omega)
        rw [textAt_step s i h1, hd]
        dsimp only
        rw [ih (i + 1) (by omega), Bool.and_true]
        unfold okAt mayP
        rw [hd]
        dsimp only
        rw [if_neg (by omega)]
        simp only [Bool.and_eq_true, decide_eq_true_eq, Bool.not_eq_true', decide_eq_false_iff_not]
        omega
      · exact textAt_end s i h1
  rw [← textAt_zero]
  exact key s.size 0 (by omega)
theorem ascii_err {s : ByteArray} (h : s.data.toList.all seenB = true) (hs : s.size ≤ 16384) : textErr s = 0 := by
  unfold textErr
  rw [if_neg (by omega), ascii_text h]
  rfl
theorem set_seen {cs : List UInt8} {s : ByteArray} (h : setAll cs s = true) (hc : cs.all seenB = true) : s.data.toList.all seenB = true := by
  rw [List.all_eq_true]
  intro b hb
  have h1 := List.all_eq_true.1 h b hb
  rw [List.contains_iff_mem] at h1
  exact List.all_eq_true.1 hc b h1
theorem app_seen {a b : ByteArray} (ha : a.data.toList.all seenB = true) (hb : b.data.toList.all seenB = true) : (a ++ b).data.toList.all seenB = true := by
  rw [data_app, List.all_append, ha, hb]; rfl
theorem eqS_eq {a b : ByteArray} (h : eqS a b = true) : a = b := by
  unfold eqS at h
  have h := eq_of_beq h
  rw [Lib.toList_data, Lib.toList_data] at h
  exact ba_ext h
theorem attrs_ok {l : List AttrL} (h1 : l.length ≤ 16) (h2 : ∀ a ∈ l, a.space = emB ∧ fullI a.name = true ∧ textErr a.value = 0) (h3 : (l.map fun a => a.name.toList).Nodup) : attrsI l = true := by
  unfold attrsI attrsT
  rw [Bool.and_eq_true, decide_eq_true_eq, List.all_eq_true]
  refine ⟨fun i hi => ?_, h1⟩
  have hi := List.mem_range.1 hi
  rw [List.getElem?_eq_getElem hi]
  obtain ⟨q1, q2, q3⟩ := h2 _ (List.getElem_mem hi)
  show goodA l i l[i] = true
  unfold goodA sndA
  have he : textErr emB = 0 := by decide +kernel
  rw [q1, q2, q3, he]
  have hd : (l.take i).any (dupA l[i]) = false := by
    rw [List.any_eq_false]
    intro b hb
    obtain ⟨j, hj, rfl⟩ := List.mem_iff_getElem.1 hb
    rw [List.length_take] at hj
    rw [List.getElem_take]
    intro hdup
    unfold dupA at hdup
    rw [Bool.and_eq_true] at hdup
    have h5 : l[i].name.toList = l[j].name.toList := eq_of_beq hdup.2
    have h6 := (List.pairwise_iff_getElem.1 h3) j i (by rw [List.length_map]; omega) (by rw [List.length_map]; omega) (by omega)
    rw [List.getElem_map, List.getElem_map] at h6
    exact h6 h5.symm
  rw [hd]
  rfl
def fineL (l : List (ByteArray × ByteArray)) : List AttrL := l.map fun p => ⟨emB, p.1, p.2⟩
theorem fine_ok {l : List (ByteArray × ByteArray)} (ns : List ByteArray) (hn : l.map (·.1) = ns) (h : ns.length ≤ 16 ∧ ns.all fullI = true ∧ (ns.map (·.toList)).Nodup) (h3 : ∀ p ∈ l, textErr p.2 = 0) : attrsI (fineL l) = true := by
  obtain ⟨h1, h2, h4⟩ := h
  subst hn
  refine attrs_ok (by unfold fineL; rw [List.length_map]; rw [List.length_map] at h1; exact h1) (fun a ha => ?_) (by unfold fineL; rw [List.map_map]; rw [List.map_map] at h4; exact h4)
  obtain ⟨p, hp, rfl⟩ := List.mem_map.1 ha
  exact ⟨rfl, List.all_eq_true.1 h2 p.1 (List.mem_map.2 ⟨p, hp, rfl⟩), h3 p hp⟩
end Go.Proofs.YtnfokaecobddkaaGreatDoor
end
section
namespace Go.Proofs.YtnfokaecobddkaaGreatDoor
theorem getD_app (a b : ByteArray) (k : Nat) : (a.data.toList ++ b.data.toList).getD (a.size + k) 0 = b.data.toList.getD k 0 := by
  have hl : a.data.toList.length = a.size := rfl
  rw [List.getD_eq_getElem?_getD, List.getD_eq_getElem?_getD, List.getElem?_append_right (by rw [hl]; omega), hl, Nat.add_sub_cancel_left]
theorem dec_app (a b : ByteArray) (i : Nat) : Utf8.decode (a ++ b) (a.size + i) = Utf8.decode b i := by
  have hl : a.data.toList.length = a.size := rfl
  rw [Lib.decode_N, Lib.decode_N, data_app, List.length_append, Nat.add_assoc, Nat.add_assoc, Nat.add_assoc, getD_app, getD_app, getD_app, getD_app, hl, show a.size + b.data.toList.length - (a.size + i) = b.data.toList.length - i by omega]
theorem textAt_app (a b : ByteArray) : ∀ d i, b.size ≤ i + d → textAt (a ++ b) (a.size + i) = textAt b i := by
  intro d
  induction d with
  | zero =>
    intro i hi
    rw [textAt_end _ _ (by rw [app_size]; omega), textAt_end _ _ (by omega)]
  | succ d ih =>
    intro i hi
    rcases Nat.lt_or_ge i b.size with h | h
    · have hd := dec_pos b i
      have ho : okAt (a ++ b) (a.size + i) = okAt b i := by unfold okAt; rw [dec_app]
      rw [textAt_step _ _ (by rw [app_size]; omega), textAt_step b i h, ho, dec_app, Nat.add_assoc, ih _ (by omega)]
    · rw [textAt_end _ _ (by rw [app_size]; omega), textAt_end _ _ (by omega)]
theorem ascii_app {a b : ByteArray} (h : a.data.toList.all seenB = true) {i : Nat} (hi : i < a.size) : textAt (a ++ b) i = textAt (a ++ b) (i + 1) := by
  have hl : i < a.data.toList.length := hi
  have e : (a ++ b).data.toList.getD i 0 = a.data.toList[i] := by
    rw [data_app, List.getD_eq_getElem?_getD, List.getElem?_append_left hl, List.getElem?_eq_getElem hl]
    rfl
  have h1 := List.all_eq_true.1 h _ (List.getElem_mem hl)
  unfold seenB at h1
  rw [decide_eq_true_eq] at h1
  have hd : Utf8.decode (a ++ b) i = (a.data.toList[i].toNat, 1) := by
    rw [Lib.decode_N, e]
    unfold Lib.decodeN
    rw [if_pos (by omega)]
  have ho : okAt (a ++ b) i = true := by
    unfold okAt mayP
    rw [hd]
    dsimp only
    rw [if_neg (by omega)]
    simp only [Bool.and_eq_true, decide_eq_true_eq, Bool.not_eq_true', decide_eq_false_iff_not]
    omega
  rw [textAt_step _ _ (by rw [app_size]; omega), ho, hd]
  rfl
theorem text_app {a b : ByteArray} (h : a.data.toList.all seenB = true) (hb : textOK b = true) : textOK (a ++ b) = true := by
  have key : ∀ d i, i + d = a.size → textAt (a ++ b) i = textAt (a ++ b) a.size := by
    intro d
    induction d with
    | zero => intro i hi; rw [show i = a.size by omega]
    | succ d ih => intro i hi; rw [ascii_app h (by omega), ih (i + 1) (by omega)]
  rw [← textAt_zero, key a.size 0 (by omega)]
  have := textAt_app a b b.size 0 (by omega)
  rw [Nat.add_zero] at this
  rw [this, textAt_zero, hb]
theorem text_ok_of {s : ByteArray} (h : textErr s = 0) : textOK s = true := by
  unfold textErr at h
  split at h
  · omega
  · split at h
    · assumption
    · omega
theorem address_text {s : ByteArray} (h : addressI s = true) : textErr s = 0 := by
  unfold addressI at h
  simp only [Bool.or_eq_true, Bool.and_eq_true] at h
  rcases h with h | ⟨h1, h2⟩
  · have h0 : s.size = 0 := by unfold isEmp at h; exact of_decide_eq_true h
    have hn : s.data.toList = [] := List.length_eq_zero_iff.1 h0
    exact ascii_err (by rw [hn]; rfl) (by omega)
  have hj := parse_jid s
  rw [h1] at hj
  have hs := eqS_eq h2
  unfold jidI at hj
  simp only [Bool.and_eq_true, Bool.or_eq_true] at hj
  obtain ⟨⟨hl, hr⟩, hd⟩ := hj
  unfold domI at hd
  simp only [Bool.and_eq_true] at hd
  have hdl := hd.1
  have hds := set_seen hd.2.1.1 (by decide)
  unfold lenOK at hdl
  simp only [Bool.and_eq_true, Bool.not_eq_true', decide_eq_true_eq] at hdl
  have head : ((if isEmp (parsedJ s).loc then (parsedJ s).dom else (parsedJ s).loc ++ (⟨#[64]⟩ : ByteArray) ++ (parsedJ s).dom) : ByteArray).data.toList.all seenB = true ∧ ((if isEmp (parsedJ s).loc then (parsedJ s).dom else (parsedJ s).loc ++ (⟨#[64]⟩ : ByteArray) ++ (parsedJ s).dom) : ByteArray).size ≤ 129 := by
    cases he : isEmp (parsedJ s).loc
    · have hl' : localI (parsedJ s).loc = true := by
        rcases hl with h | h
        · rw [he] at h; cases h
        · exact h
      unfold localI lenOK at hl'
      simp only [Bool.and_eq_true, Bool.not_eq_true', decide_eq_true_eq] at hl'
      rw [if_neg (by decide)]
      refine ⟨app_seen (app_seen (set_seen hl'.2 (by decide)) (by decide)) hds, ?_⟩
      rw [app_size, app_size]
      have : ((⟨#[64]⟩ : ByteArray) : ByteArray).size = 1 := rfl
      omega
    · rw [if_pos rfl]
      exact ⟨hds, by omega⟩
  have tail : textOK ((if isEmp (parsedJ s).res then emB else (⟨#[47]⟩ : ByteArray) ++ (parsedJ s).res) : ByteArray) = true ∧ ((if isEmp (parsedJ s).res then emB else (⟨#[47]⟩ : ByteArray) ++ (parsedJ s).res) : ByteArray).size ≤ 65 := by
    cases he : isEmp (parsedJ s).res
    · have hr' : resI (parsedJ s).res = true := by
        rcases hr with h | h
        · rw [he] at h; cases h
        · exact h
      unfold resI lenOK at hr'
      simp only [Bool.and_eq_true, Bool.not_eq_true', decide_eq_true_eq] at hr'
      rw [if_neg (by decide)]
      refine ⟨text_app (by decide) (text_ok_of hr'.2.1), ?_⟩
      rw [app_size]
      have : ((⟨#[47]⟩ : ByteArray) : ByteArray).size = 1 := rfl
      omega
    · rw [if_pos rfl]
      exact ⟨by decide +kernel, by decide⟩
  rw [← hs]
  unfold textJ
  unfold textErr
  rw [if_neg (by rw [app_size]; omega), text_app head.1 tail.1]
  rfl
theorem hasS_in {l : List ByteArray} {s : ByteArray} (h : hasS l s = true) : s ∈ l := by
  unfold hasS at h
  obtain ⟨x, hx, e⟩ := List.any_eq_true.1 h
  have : x = s := eqS_eq e
  rw [← this]
  exact hx
theorem typed_text {k : Int} {s : ByteArray} (h : typedI k s = true) : textErr s = 0 := by
  have all : ∀ x ∈ msgTypes ++ preTypes ++ iqTypes, textErr x = 0 := by decide +kernel
  unfold typedI typesOf at h
  refine all s ?_
  split at h
  · exact List.mem_append_left _ (List.mem_append_left _ (hasS_in h))
  · split at h
    · exact List.mem_append_left _ (List.mem_append_right _ (hasS_in h))
    · split at h
      · exact List.mem_append_right _ (hasS_in h)
      · cases h
def fourS (s : StL) : List (ByteArray × ByteArray) := [((⟨#[116, 121, 112, 101]⟩ : ByteArray), s.typ), ((⟨#[105, 100]⟩ : ByteArray), s.id), ((⟨#[102, 114, 111, 109]⟩ : ByteArray), s.frm), ((⟨#[116, 111]⟩ : ByteArray), s.to)]
theorem attrsS_four (s : StL) : attrsS s = fineL ((fourS s).filter fun p => !isEmp p.2) := by
  unfold attrsS withA fourS fineL
  cases h1 : isEmp s.typ <;> cases h2 : isEmp s.id <;> cases h3 : isEmp s.frm <;> cases h4 : isEmp s.to <;> simp [h1, h2, h3, h4]
theorem stn_attrs {s : StL} (h1 : textErr s.typ = 0) (h2 : textErr s.id = 0) (h3 : textErr s.frm = 0) (h4 : textErr s.to = 0) : attrsI (attrsS s) = true := by
  rw [attrsS_four]
  have hsub : ((fourS s).filter fun p => !isEmp p.2).Sublist (fourS s) := List.filter_sublist
  have hn : (fourS s).map (·.1) = [(⟨#[116, 121, 112, 101]⟩ : ByteArray), (⟨#[105, 100]⟩ : ByteArray), (⟨#[102, 114, 111, 109]⟩ : ByteArray), (⟨#[116, 111]⟩ : ByteArray)] := rfl
  have hm := hsub.map (·.1)
  rw [hn] at hm
  refine fine_ok _ rfl ⟨?_, ?_, ?_⟩ fun p hp => ?_
  · have := hm.length_le
    have h4 : ([(⟨#[116, 121, 112, 101]⟩ : ByteArray), (⟨#[105, 100]⟩ : ByteArray), (⟨#[102, 114, 111, 109]⟩ : ByteArray), (⟨#[116, 111]⟩ : ByteArray)] : List ByteArray).length = 4 := rfl
    omega
  · have all : ([(⟨#[116, 121, 112, 101]⟩ : ByteArray), (⟨#[105, 100]⟩ : ByteArray), (⟨#[102, 114, 111, 109]⟩ : ByteArray), (⟨#[116, 111]⟩ : ByteArray)] : List ByteArray).all fullI = true := by decide +kernel
    rw [List.all_eq_true] at all ⊢
    exact fun x hx => all x (hm.subset hx)
  · have all : (([(⟨#[116, 121, 112, 101]⟩ : ByteArray), (⟨#[105, 100]⟩ : ByteArray), (⟨#[102, 114, 111, 109]⟩ : ByteArray), (⟨#[116, 111]⟩ : ByteArray)] : List ByteArray).map (·.toList)).Nodup := by decide +kernel
    exact (hm.map _).nodup all
  · have hp' := hsub.subset hp
    unfold fourS at hp'
    simp only [List.mem_cons, List.mem_nil_iff, or_false] at hp'
    rcases hp' with rfl | rfl | rfl | rfl <;> assumption
theorem stn_parts {s : StL} (h : stnI s = true) : typedI s.kind s.typ = true ∧ idI s.kind s.id = true ∧ addressI s.frm = true ∧ addressI s.to = true ∧ s.load.length ≤ 16 ∧ s.load.all spaceI = true := by
  unfold stnI at h
  simp only [Bool.and_eq_true, Bool.not_eq_true', decide_eq_false_iff_not] at h
  obtain ⟨⟨⟨⟨⟨h1, h2⟩, h3⟩, h4⟩, h5⟩, h6⟩ := h
  exact ⟨h1, h2, h3, h4, by omega, h6⟩
theorem text_sz {s : ByteArray} (h : textErr s = 0) : s.size ≤ 1000000000 := by
  unfold textErr at h
  split at h <;> omega
theorem stn_szs {s : StL} (h : stnI s = true) (hb : SzB s) : SzS s := by
  obtain ⟨h1, h2, h3, h4, -, -⟩ := stn_parts h
  have hid : textErr s.id = 0 := by
    unfold idI at h2
    simp only [Bool.and_eq_true, decide_eq_true_eq] at h2
    exact h2.1.2
  obtain ⟨b0, -, -, -, -, b5⟩ := hb
  exact ⟨b0, text_sz (typed_text h1), text_sz hid, text_sz (address_text h3), text_sz (address_text h4), b5⟩
theorem stn_node {s : StL} (h : stnI s = true) : nodeI (elemS s) = true := by
  obtain ⟨h1, h2, h3, h4, -, -⟩ := stn_parts h
  have hid : textErr s.id = 0 := by
    unfold idI at h2
    simp only [Bool.and_eq_true, decide_eq_true_eq] at h2
    exact h2.1.2
  have ha := stn_attrs (typed_text h1) hid (address_text h3) (address_text h4)
  obtain ⟨k1, k3⟩ := typed_kind h1
  have hw : fullI (wordI s.kind) = true := by
    rcases (by omega : s.kind = 1 ∨ s.kind = 2 ∨ s.kind = 3) with e | e | e <;> rw [e] <;> decide +kernel
  have hsp : textErr (⟨#[106, 97, 98, 98, 101, 114, 58, 99, 108, 105, 101, 110, 116]⟩ : ByteArray) = 0 := by decide +kernel
  unfold nodeI elemS
  simp only [show ¬ ((1 : Int) = 2) by omega, if_false, hw, hsp, ha]
  decide
theorem fail_tre {word : ByteArray} (h : nameI word = true) : Tre 2 (failV word) :=
  join_tre (n := errH 0) (l := [[errN word]]) (errH_ok 0) rfl fun x hx => by
    rw [List.mem_singleton.1 hx]
    exact join_tre (n := errN word) (l := []) (d := 0) (errN_ok h) rfl fun x hx => by cases hx
theorem fail_space {word : ByteArray} (h : nameI word = true) : spaceI (failV word) = true := by
  unfold spaceI
  rw [fail_tree h]
  have h1 : oddN (errH 1) = false := by decide +kernel
  have h2 : givenB errL = false := by decide +kernel
  have h3 : oddN (errN word) = false := by
    unfold oddN errN
    simp [h, h2]
  unfold failV
  simp [h1, h3]
theorem fail_stn {s : StL} {word : ByteArray} (h : stnI s = true) (hw : nameI word = true) : stnI (failS s word) = true := by
  obtain ⟨h1, h2, h3, h4, -, -⟩ := stn_parts h
  obtain ⟨k1, k3⟩ := typed_kind h1
  have ht : typedI s.kind (⟨#[101, 114, 114, 111, 114]⟩ : ByteArray) = true := by
    rcases (by omega : s.kind = 1 ∨ s.kind = 2 ∨ s.kind = 3) with e | e | e <;> rw [e] <;> decide +kernel
  unfold stnI failS
  simp [ht, h2, h3, h4, fail_space hw]
theorem fail_again {s : StL} {word : ByteArray} (h : stnI s = true) (hw : nameI word = true) (v : ByteArray) : failE (failS s word) v = 2 := by
  unfold failE
  rw [fail_stn h hw, if_pos rfl]
  have : mayF (failS s word) = false := by
    unfold mayF failS
    have e : (((⟨#[101, 114, 114, 111, 114]⟩ : ByteArray) : ByteArray).toList == [101, 114, 114, 111, 114]) = true := by decide +kernel
    simp [e]
  rw [this]
  rfl
theorem fail_build {s : StL} {word : ByteArray} (h : stnI s = true) (hw : nameI word = true) : buildE (failS s word) = 0 := by
  have hf := fail_stn h hw
  unfold buildE
  rw [hf, if_pos rfl]
  exact (put_ok (d := 2) (stn_node hf) rfl (fun x hx => by
    have : x = failV word := List.mem_singleton.1 hx
    rw [this]
    exact fail_tre hw) (by show (joinV _ [failV word]).length ≤ 512; rw [joinV_len]; show 1 + 2 ≤ 512; omega) (by omega)).1
end Go.Proofs.YtnfokaecobddkaaGreatDoor
end
section
namespace Go.Proofs.YtnfokaecobddkaaGreatDoor
open Go.RowKit
set_option linter.unusedSimpArgs false
set_option linter.unusedVariables false
def Fresh (base : Nat) (w : World) (P : World → Prop) : Prop := ∀ W', w.heap.size ≤ W'.heap.size → (∀ k, base ≤ k → k < w.heap.size → W'.heap[k]? = w.heap[k]?) → P W'
section
variable {base base' g : Nat} {w w' : World} {P : World → Prop}
theorem Fresh.now (h : Fresh base w P) : P w := h w (Nat.le_refl _) (fun _ _ _ => rfl)
theorem Fresh.ext (h : Fresh base w P) (hb : Below w.heap.size w w') : Fresh base w' P := fun W' h1 h2 =>
  h W' (Nat.le_trans hb.size h1) (fun k k1 k2 => (h2 k k1 (Nat.lt_of_lt_of_le k2 hb.size)).trans (hb.block k k2))
theorem Fresh.mono (h : Fresh base w P) (hb : base' ≤ base) : Fresh base' w P := fun W' h1 h2 => h W' h1 (fun k k1 k2 => h2 k (Nat.le_trans hb k1) k2)
theorem Fresh.rows (h : Fresh base w P) (hg : g < base) (a b c d e f : Value) : Fresh base (put6 w g a b c d e f) P := by
  have h1 := (put6_below (B := 0) (Below.refl 0 w) (g := g) (Nat.zero_le _) a b c d e f).size
  have h2 := fun k (hk : k ≠ g) => put6_other (w := w) hk a b c d e f
  generalize put6 w g a b c d e f = W6 at *
  exact fun W' q1 q2 => h W' (Nat.le_trans h1 q1) (fun k k1 k2 => (q2 k k1 (Nat.lt_of_lt_of_le k2 h1)).trans (h2 k (by omega)))
theorem Fresh.set (h : Fresh base w P) (hg : g < base) (o : Nat) (u : Value) : Fresh base (w.setCell ⟨g, o, none⟩ u) P := fun W' q1 q2 =>
  h W' (by simpa [World.setCell] using q1) (fun k k1 k2 => (q2 k k1 (by simpa [World.setCell] using k2)).trans (heap_setCell_other w _ k _ (by show k ≠ g; omega)))
end
theorem al_at (w W : World) (o : Obj) (n : Nat) (hn : n = w.heap.size) (h : Below (n + 1) (w.alloc o) W) : W.heap[n]? = some o := by
  subst hn
  exact (h.block _ (Nat.lt_succ_self _)).trans (heap_alloc_new w o)
end Go.Proofs.YtnfokaecobddkaaGreatDoor
end
section
namespace Go.Proofs.YtnfokaecobddkaaGreatDoor
open Go.RowKit
set_option linter.unusedSimpArgs false
set_option linter.unusedVariables false
def FailsPost (s : StL) (word : ByteArray) (w : World) (e : Ending) (w' : World) : Prop :=
  ∃ A c, e = .returned (.tuple #[encS (failR s word) A c, .int .i64 (failE s word)]) ∧ (failR s word).load.length ≤ c ∧ Fresh w.heap.size w' (fun W => RdW W W.heap.size A (failR s word).load) ∧ Below w.heap.size w w'
theorem FailsPost.no {s : StL} {word : ByteArray} {w w' : World} {q : Int} (h : Below w.heap.size w w') (h1 : failR s word = emS) (h2 : failE s word = q) : FailsPost s word w (.returned (.tuple #[encS emS none 0, .int .i64 q])) w' := by
  unfold FailsPost
  rw [h1, h2]
  exact ⟨none, 0, rfl, Nat.le_refl _, fun W' _ _ h => absurd h (by decide), h⟩
theorem FailsPost.yes {s : StL} {word : ByteArray} {w w' : World} {A : Option Addr} {c : Nat} (h : Below w.heap.size w w') (h1 : failR s word = failS s word) (h2 : failE s word = 0) (h3 : 1 ≤ c) (h4 : Fresh w.heap.size w' (fun W => RdW W W.heap.size A (failS s word).load)) : FailsPost s word w (.returned (.tuple #[encS (failS s word) A c, .int .i64 0])) w' := by
  unfold FailsPost
  rw [h1, h2]
  exact ⟨A, c, rfl, h3, h4, h⟩
theorem fail_bad {s : StL} {word : ByteArray} (h : stnI s = false) : failR s word = emS ∧ failE s word = 8 := by unfold failR failE; rw [h]; exact ⟨rfl, rfl⟩
theorem fail_no {s : StL} {word : ByteArray} (h : stnI s = true) (h1 : (mayF s && nameI word) = false) : failR s word = emS ∧ failE s word = 2 := by unfold failR failE; rw [h, h1]; exact ⟨rfl, rfl⟩
theorem fail_yes {s : StL} {word : ByteArray} (h : stnI s = true) (h1 : (mayF s && nameI word) = true) : failR s word = failS s word ∧ failE s word = 0 := by unfold failR failE; rw [h, h1]; exact ⟨rfl, rfl⟩
end Go.Proofs.YtnfokaecobddkaaGreatDoor
end
