import Derived.Test.YtnmnpnofdgdigaaGreatDoorZ26
import Derived.Test.YtnmnpnofdgdigaaGreatDoorZ27
set_option linter.all false
section
/- Layer 22 (stanza): what is right within a tree's first element, the document's. -/
namespace Go.Proofs.YtnmnpnofdgdigaaGreatDoor
open Go.RowKit
set_option linter.unusedSimpArgs false
set_option linter.unusedVariables false
set_option maxHeartbeats 16000000 in
set_option maxRecDepth 10000 in
theorem refelems_any (v : List NodeL) (A : Option Addr) (c : Nat) (w : World) (hc : v.length ≤ c) (hz : SzV 1000000000 v) (hr : RdV w w.heap.size A v) (ht : treeI v = true) :
    Calls Tryz.prog 83 #[.slice A v.length c] w (ElemsPost v w) := by
  have hl0 := (tree_parts ht).1
  have hl5 := (tree_parts ht).2.1
  have H := Lib.hid (refunder_any v A c 0 w hc hz hr ht hl0)
  unfold UnderPost at H
  obtain ⟨e0, he0, _⟩ := tree_ends ht hl0
  have HLT := Lib.hid (fun k (hk : k ∈ kidsI v 0) => (kids_lt he0 hk).1)
  have HKK := Lib.hid (fun k (hk : k < v.length) => kid_kind ht hk)
  have HSUB := Lib.hid (fun k (hk : k < v.length) (h1 : (nodeAt v k).kind = 1) W (hW : RdV W W.heap.size A v) => refpart_any v A c k W hc hz hW ht hk)
  unfold PartPost at HSUB
  have HPL := Lib.hid (fun k (hk : k < v.length) => by
    obtain ⟨x, hx, h1, h2⟩ := tree_ends ht hk
    have := part_len hx
    exact (show 0 < (partI v k).length by omega))
  have HZN := Lib.hid (fun k (hk : k < v.length) => (szv_get hz (node_get hk)).2.2.2.2.1)
  have HR := Lib.hid hr
  have HEL : Hid (elemsI v = elemsK v (kidsI v 0)) := rfl
  have HBL : Hid (blanksI v = blanksK v (kidsI v 0)) := rfl
  have HKN : Hid ((kidsI v 0).length ≤ 512) := Lib.hid (by
    have h1 := (chain_start he0).lt (by omega)
    unfold kidsI
    rw [kidL_len]
    have := (endN_le v 12 0 e0 he0).2
    omega)
  obtain ⟨b, off, rfl, hb, hcc⟩ := hr hl0
  have HC0 : Hid (∀ k, k < v.length → ∀ W, Below w.heap.size w W → W.cell? ⟨b, off + k * 6, none⟩ = some (.int .u8 (nodeAt v k).kind) ∧ W.cell? ⟨b, off + k * 6 + 4, none⟩ = some (.string (nodeAt v k).text)) := Lib.hid (fun k hk W hW => by
    have h := hcc k _ (node_get hk)
    exact ⟨(hW.cell (p := ⟨b, off + k * 6, none⟩) hb).trans h.1, (hW.cell (p := ⟨b, off + k * 6 + 4, none⟩) hb).trans h.2.2.2.2.1⟩)
  clear hz hc ht he0 hr hcc
  unfold ElemsPost
  generalize kidsI v 0 = ks at *
  have hkn := HKN.out
  generalize elemsI v = EL at *
  generalize blanksI v = BL at *
  go_enter Tryz.func83, Tryz.ntmps83
  go_wp2_with fail
  refine H.out.mono ?_
  rintro e w1 ⟨uk, rfl, hown1, hb1⟩
  obtain ⟨Ak, ck, rfl⟩ := own_form hown1
  have HO1 := Lib.hid hown1
  have X1 := Lib.hid hb1
  clear hown1 hb1
  go_wp2
  go_loopw [4, 5, 7] (fun s2 s3 s17 wr => ∃ (j : Nat) (ts : List TreeH), j ≤ ks.length ∧ s17 = .int .i64 j ∧ s3 = .bool (blanksK v (ks.take j)) ∧ Hid (Below w1.heap.size w1 wr) ∧ Hid (ts.map (·.1) = elemsK v (ks.take j)) ∧ Hid (RowT w1.heap.size s2 wr ts) ∧ ts.length ≤ j) (fun _ _ s17 _ => ks.length - (intOf s17).toNat)
  case atStart => exact ⟨0, [], Nat.zero_le _, rfl, rfl, Lib.hid (Below.refl _ _), rfl, RowT.nil _ _, Nat.le_refl _⟩
  case round =>
    obtain ⟨j, ts, hj, rfl, rfl, HB, HM, HT, htj⟩ := hrel
    obtain ⟨A2, c2, rfl⟩ := own_form HT.out.1
    have HBW : Hid (Below w.heap.size w wr) := X1.out.trans (HB.out.mono X1.out.size)
    by_cases hlt : j < ks.length
    · obtain ⟨k, hk⟩ : ∃ k, ks[j]? = some k := ⟨_, List.getElem?_eq_getElem hlt⟩
      have hkv := HLT.out k (List.mem_of_getElem? hk)
      obtain ⟨gk, rfl, hgk1, hgk2⟩ := own_some HO1.out (by omega)
      have d0 := (HB.out.cell (p := ⟨gk, j, none⟩) hgk2).trans ((HO1.out.cellAt j (by omega)).trans (by simp [ints, hk]; rfl))
      obtain ⟨d1, d2⟩ := HC0.out k hkv wr HBW.out
      have HTK := Lib.hid (take_kids hk)
      have hkk := HKK.out k hkv
      have HBS := Lib.hid (blanksK_succ v (ks.take j) k)
      have HES := Lib.hid (elemsK_succ v (ks.take j) k)
      rw [← HTK.out] at HBS HES
      have HS := Lib.hid (HSUB.out k hkv)
      have hpl := HPL.out k hkv
      have htz := HZN.out k hkv
      clear hk HTK
      generalize nodeAt v k = n at *
      rcases hkk with hk1 | hk2
      · rw [hk1] at d1
        have HS1 := Lib.hid (HS.out hk1 wr ((HR.out.below HBW.out (Nat.le_refl _)).more HBW.out.size))
        rw [if_pos hk1] at HES
        rw [decide_eq_true hk1, Bool.true_or, Bool.and_true] at HBS
        clear HS
        generalize partI v k = P at *
        generalize blanksK v (ks.take j) = bb at *
        go_wp2_with fail
        refine HS1.out.mono ?_
        rintro e2 w2 ⟨A3, c3, rfl, hl3, hnew, hb2⟩
        have X2 := Lib.hid (HB.out.trans (hb2.mono HB.out.size))
        have HT2 := Lib.hid (HT.out.ext hb2)
        have hsz2 := hb2.size
        have hszr := HB.out.size
        have HNX : Hid (NewVX w1.heap.size (.slice A2 ts.length c2) (w2.alloc (.cells #[.slice A3 P.length c3] 22)) A3 c3 P) := Lib.hid ((NewVX.of hnew hpl hszr (fun g hg => (HT.out.1.lt g hg).2)).ext ((Below.refl _ _).alloc (Nat.le_refl _) _))
        have HTA := Lib.hid (HT2.out.ext ((Below.refl _ _).alloc (Nat.le_refl _) (.cells #[.slice A3 P.length c3] 22)))
        have HRN : Hid (Rd (w2.alloc (.cells #[.slice A3 P.length c3] 22)) (w2.heap.size + 1) 1 (some ⟨w2.heap.size, 0, none⟩) 1 (cellsT [(P, A3, c3)])) := Rd.new w2 22 #[.slice A3 P.length c3] (s := 1) (n := 1) rfl
        have HL3 := Lib.hid hl3
        clear hb2 hnew hl3 d0 d1 d2
        go_wp2_with (at_builtin; refine app_trees rfl _ _ rfl w1.heap.size _ ts.length ts rfl HTA.out.1 _ _ _ _ [(P, A3, c3)] rfl HRN.out (by omega) (by simp; omega) ?_)
        intro v4 w4 hown4 hg4 hbk
        have HT4 := Lib.hid (RowT.app HTA.out ⟨hpl, HL3.out, HNX.out⟩ hown4 hg4 (by simpa using hbk))
        have HX4 : Hid (Below w1.heap.size w1 w4) := (X2.out.alloc X2.out.size _).grown hg4 (by have := X2.out.size; simp; omega) (fun q hq => (HT.out.1.lt q hq).1)
        clear hown4 hg4 hbk
        go_wp2
        go_roundw
        case rel => exact ⟨j + 1, ts ++ [(P, A3, c3)], by omega, by go_num, by rw [HBS.out], HX4, Lib.hid (by rw [HES.out, List.map_append, HM.out]; rfl), HT4, by rw [List.length_append]; simp; omega⟩
        case measure => simp [intOf]; omega
      · rw [hk2] at d1
        rw [if_neg (by omega)] at HES
        have hk21 : decide (n.kind = 1) = false := decide_eq_false (by omega)
        rw [hk21, Bool.false_or] at HBS
        have HTR := Lib.hid (fun W => refblank_any n.text W htz)
        clear HS hk21
        generalize blanksK v (ks.take j) = bb at *
        generalize blankI n.text = bq at *
        cases bb
        · go_wp2
          go_roundw
          case rel => exact ⟨j + 1, ts, by omega, by go_num, by rw [HBS.out]; rfl, HB, Lib.hid (by rw [HES.out]; exact HM.out), HT, by omega⟩
          case measure => simp [intOf]; omega
        · go_wp2_with fail
          refine (HTR.out _).mono ?_
          rintro e2 w2 ⟨rfl, hw2⟩
          subst hw2
          go_wp2
          go_roundw
          case rel => exact ⟨j + 1, ts, by omega, by go_num, by rw [HBS.out]; rfl, HB, Lib.hid (by rw [HES.out]; exact HM.out), HT, by omega⟩
          case measure => simp [intOf]; omega
    · obtain rfl : j = ks.length := by omega
      rw [List.take_length] at HM ⊢
      have HLE := Lib.hid (own_le HT.out.1)
      have HEM : Hid (ts.map (·.1) = EL) := Lib.hid (by rw [HM.out, HEL.out])
      have HLN : Hid (ts.length = EL.length) := Lib.hid (by rw [← HEM.out, List.length_map])
      go_wp2
      go_ret2
      refine ⟨A2, c2, ts, by rw [HBL.out, ← HLN.out]; rfl, by rw [← HLN.out]; exact HLE.out, HEM.out, ?_, HBW.out⟩
      rw [← HLN.out]
      refine ⟨own_mono HT.out.1 X1.out.size, fun x hx => ?_⟩
      obtain ⟨q1, q2, l, q3, q4, q5, q6⟩ := HT.out.2 x hx
      exact ⟨q1, q2, l, q3, own_mono q4 X1.out.size, q5, fun i y hi => ⟨(q6 i y hi).1, fun h00 => by
        obtain ⟨b', off', e1, e2, e3⟩ := (q6 i y hi).2 h00
        exact ⟨b', off', e1, Nat.le_trans X1.out.size e2, e3⟩⟩⟩
end Go.Proofs.YtnmnpnofdgdigaaGreatDoor
end
section
/- Layer 22 (stanza): the stanza of an element, the document's. -/
namespace Go.Proofs.YtnmnpnofdgdigaaGreatDoor
open Go.RowKit
set_option linter.unusedSimpArgs false
set_option linter.unusedVariables false
def kindW (s : ByteArray) : Nat → Int
  | 0 => 0
  | 1 => 0
  | k + 2 => if (wordI ((k + 1 : Nat) : Int)).toList == s.toList then ((k + 1 : Nat) : Int) else kindW s (k + 1)
theorem kindW_succ (s : ByteArray) (k : Nat) (h : 1 ≤ k) : kindW s (k + 1) = if (wordI (k : Int)).toList == s.toList then (k : Int) else kindW s k := by
  obtain ⟨j, rfl⟩ : ∃ j, k = j + 1 := ⟨k - 1, by omega⟩
  rfl
theorem kindW_eq (s : ByteArray) : kindW s 4 = kindI s := by
  have e1 : kindW s 4 = if [105, 113] = s.toList then 3 else if [112, 114, 101, 115, 101, 110, 99, 101] = s.toList then 2 else if [109, 101, 115, 115, 97, 103, 101] = s.toList then 1 else 0 := by
    show (if (((⟨#[105, 113]⟩ : ByteArray)).toList == s.toList) = true then (3 : Int) else if (((⟨#[112, 114, 101, 115, 101, 110, 99, 101]⟩ : ByteArray)).toList == s.toList) = true then (2 : Int) else if (((⟨#[109, 101, 115, 115, 97, 103, 101]⟩ : ByteArray)).toList == s.toList) = true then (1 : Int) else 0) = _
    simp only [beq_iff_eq, Lib.toList_data]
  have e2 : placeI (fstP (eqT s) kindNames) = if s.toList = [] then 0 else if s.toList = [109, 101, 115, 115, 97, 103, 101] then 1 else if s.toList = [112, 114, 101, 115, 101, 110, 99, 101] then 2 else if s.toList = [105, 113] then 3 else -1 := by
    unfold kindNames eqT
    by_cases h0 : s.toList = []
    · simp [fstP, h0, placeI]
    · by_cases h1 : s.toList = [109, 101, 115, 115, 97, 103, 101]
      · simp [fstP, h1, placeI]
      · by_cases h2 : s.toList = [112, 114, 101, 115, 101, 110, 99, 101]
        · simp [fstP, h2, placeI]
        · by_cases h3 : s.toList = [105, 113]
          · simp [fstP, h3, placeI]
          · simp [fstP, h0, h1, h2, h3, placeI]
  rw [e1]
  unfold kindI
  rw [e2]
  by_cases h0 : s.toList = []
  · simp [h0]
  · by_cases h1 : s.toList = [109, 101, 115, 115, 97, 103, 101]
    · simp [h1]
    · by_cases h2 : s.toList = [112, 114, 101, 115, 101, 110, 99, 101]
      · simp [h2]
      · by_cases h3 : s.toList = [105, 113]
        · simp [h3]
        · simp [h0, h1, h2, h3, Ne.symm h1, Ne.symm h2, Ne.symm h3, eq_comm]
section
variable {ops : Array Oper} {w0 : World} {Fin : List Ty → Prop} {rest : List Oper} {E : Env} {Ts : List Ty} {o : Oper}
theorem tw_eqS {x y : Operand} (s t : ByteArray) (b : Bool) (hb : (s.toList == t.toList) = b) (hop : o.op = .binOp .eql 9 x y 9) (hx : evalE E x = some (.string s)) (hy : evalE E y = some (.string t)) (hw : Wd ops o E true)
    (hr : wpT Tryz.prog ops w0 Fin rest (E.put o.dst (.inl (.bool b))) (.inl (.bool b) :: Ts)) : wpT Tryz.prog ops w0 Fin (o :: rest) E Ts :=
  tw_pure _ hw (fun a W hW hs => by
    have h1 : a.eval x = .string s := evalE_of hx (by rw [hop]; simp [Op.operands]) hs
    have h2 : a.eval y = .string t := evalE_of hy (by rw [hop]; simp [Op.operands]) hs
    subst hb
    unfold execOp
    simp only [hop, h1, h2]
    go_simp) hr
set_option maxRecDepth 10000 in
theorem tw_ldSt {x : Operand} {g : Nat} {s : StL} {A : Option Addr} {c : Nat} (hop : o.op = .load 27 x) (hE : evalE E x = some (.pointer (some ⟨g, 0, none⟩))) (hc : ∀ W, Ext w0 W → SAt W g s A c) (hw : Wd ops o E true)
    (hr : wpT Tryz.prog ops w0 Fin rest (E.put o.dst (.inl (encS s A c))) (.inl (encS s A c) :: Ts)) : wpT Tryz.prog ops w0 Fin (o :: rest) E Ts :=
  tw_pure (encS s A c) hw (fun a W hW hs => by
    have h1 : a.eval x = .pointer (some ⟨g, 0, none⟩) := evalE_of hE (by rw [hop]; simp [Op.operands]) hs
    obtain ⟨t, h2⟩ := hc W hW
    have h3 := run_loadVar_row (P := Tryz.prog) W g t 27 _ (0, 0) _ h2 Tryz.underlying27 rfl (by kernel_rfl)
    unfold execOp
    have h4 : (Instr.sureAddr (.pointer (some ⟨g, 0, none⟩))).run Tryz.prog W = .ok ⟨g, 0, none⟩ W := by first | rfl | (go_simp; done) | (simp [Instr.sureAddr, asAddr]; done)
    simp only [hop, h1, Instr.loadAt, Sem.run_bind, Sem.run_pure, Result.andThen_ok, h4, h3]
    rfl) hr
end
def OfPost (v : List NodeL) (w : World) (e : Ending) (w' : World) : Prop :=
  ∃ A c ts, e = .returned (.tuple #[encS (ofV v) A c, .bool (goodI v)]) ∧ (ofV v).load.length ≤ c ∧ ts.map (·.1) = (ofV v).load ∧ RowT w.heap.size (.slice A (ofV v).load.length c) w' ts ∧ Below w.heap.size w w'
set_option maxHeartbeats 16000000 in
set_option maxRecDepth 10000 in
theorem refof_any (v : List NodeL) (A : Option Addr) (c : Nat) (w : World) (hc : v.length ≤ c) (hz : SzV 1000000000 v) (hr : RdV w w.heap.size A v) (htree : treeI v = true) :
    Calls Tryz.prog 36 #[.slice A v.length c] w (OfPost v w) := by
  obtain ⟨W0, hW0⟩ : ∃ W0, W0 = w.alloc (.cells #[.int .u8 0, .string ⟨#[]⟩, .string ⟨#[]⟩, .string ⟨#[]⟩, .string ⟨#[]⟩, .slice none 0 0] 27) := ⟨_, rfl⟩
  have hX0 : Below w.heap.size w W0 := by rw [hW0]; exact (Below.refl _ _).alloc (Nat.le_refl _) _
  have hS0 : SAt W0 w.heap.size emS none 0 := by rw [hW0]; exact SAt.new _ _ emS none 0
  have HX0 := Lib.hid hX0
  have hR0 := (hr.below hX0 (Nat.le_refl _)).more hX0.size
  have hl0 := (tree_parts htree).1
  obtain ⟨b, off, rfl, hb, hcc⟩ := hR0 hl0
  obtain ⟨d0, d1, d2, ⟨A3, c3, d3, hl3, hA3⟩, d4, d5⟩ := hcc 0 (nodeAt v 0) (node_get hl0)
  generalize hnn : nodeAt v 0 = n at *
  rw [Nat.zero_mul, Nat.add_zero] at d0 d1 d2 d3 d4 d5
  obtain ⟨W2, hW2⟩ : ∃ W2, W2 = W0.alloc (.cells #[.int .u8 n.kind, .string n.space, .string n.name, .slice A3 n.attrs.length c3, .string n.text, .int .i64 n.many] 36) := ⟨_, rfl⟩
  have hX2 : Below W0.heap.size W0 W2 := by rw [hW2]; exact (Below.refl _ _).alloc (Nat.le_refl _) _
  have hN2 : NRow W2 W0.heap.size n A3 c3 := by rw [hW2]; exact NRow.new _ _ _ _ _
  have hs0 : W0.heap.size = w.heap.size + 1 := by rw [hW0]; simp
  have hN2' := hN2
  rw [hs0] at hN2'
  have HN1 := Lib.hid hN2'
  have Y2 := Lib.hid hX2
  have X2 := Lib.hid (hX0.trans (hX2.mono hX0.size))
  have S2 := Lib.hid (hS0.ext hX2)
  have HRA := Lib.hid ((hA3.below hX2 (Nat.le_refl _)).more hX2.size)
  have HE5 := Lib.hid (refelems_any v (some ⟨b, off, none⟩) c W2 hc hz ((hR0.below hX2 (Nat.le_refl _)).more hX2.size) htree)
  unfold ElemsPost at HE5
  have hgw1 := hS0.lt
  have hg2 := hN2.lt
  have HW2 := Lib.hid hW2
  have HW0 := Lib.hid hW0
  unfold OfPost
  rw [hW0] at d0 d1 d2 d3 d4 d5
  clear hW2 hX2 hcc hA3 hS0 hX0 hr hR0 hN2 hN2' hW0
  go_enter Tryz.func36, Tryz.ntmps36
  go_wp2_with fail
  rw [← HW0.out, ← HW2.out]
  refine HE5.out.mono ?_
  rintro e w3 ⟨A5, c5, ts, rfl, hl5, hm5, hrow5, hb3⟩
  have X3 := Lib.hid (X2.out.trans (hb3.mono X2.out.size))
  have S3 := Lib.hid (S2.out.ext hb3)
  have N3 := Lib.hid (HN1.out.ext hb3)
  have R3 := Lib.hid hrow5
  have Z3 := Lib.hid hb3
  clear hb3 hrow5 d0 d1 d2 d3 d4 d5
  have hat := (szv_get hz (node_get hl0)).2.2.2.1.1
  rw [hnn] at hat
  have HFD := Lib.hid (fun W (hW : Ext w3.drew W) nm => reffind_any n A3 c3 nm W ((HRA.out.below (Z3.out.trans ((ext_below hW).mono Z3.out.size)) (Nat.le_refl _)).more (Z3.out.trans ((ext_below hW).mono Z3.out.size)).size) hl3 hat)
  have EF := Lib.hid (enters_of (P := Tryz.prog) Tryz.func84 (by kernel_rfl) rfl)
  have G5 := Lib.hid (fun W (hW : Ext w3.drew W) => N3.out.ext (ext_below hW))
  have GS := Lib.hid (fun W (hW : Ext w3.drew W) => (ext_below hW).size)
  obtain ⟨sv, hsv⟩ : ∃ sv, sv = ofV v := ⟨_, rfl⟩
  have HSV := Lib.hid hsv
  have hk0 : sv.kind = kindW n.name 4 := by rw [kindW_eq, hsv]; show kindI (nodeAt v 0).name = _; rw [hnn]
  have hk1 : sv.typ = findI n (⟨#[116, 121, 112, 101]⟩ : ByteArray) := by rw [hsv]; show findI (nodeAt v 0) _ = _; rw [hnn]
  have hk2 : sv.id = findI n (⟨#[105, 100]⟩ : ByteArray) := by rw [hsv]; show findI (nodeAt v 0) _ = _; rw [hnn]
  have hk3 : sv.frm = findI n (⟨#[102, 114, 111, 109]⟩ : ByteArray) := by rw [hsv]; show findI (nodeAt v 0) _ = _; rw [hnn]
  have hk4 : sv.to = findI n (⟨#[116, 111]⟩ : ByteArray) := by rw [hsv]; show findI (nodeAt v 0) _ = _; rw [hnn]
  have hk5 : elemsI v = sv.load := by rw [hsv]; rfl
  rw [hk5] at R3
  clear hsv
  have HK0 := Lib.hid hk0
  clear hk0
  go_wp2_with fail
  refine wp_region_typed_tail 11 rfl (by kernel_rfl) (by kernel_rfl) (by kernel_rfl) ?_
  try rw [hk5]
  obtain ⟨s0, hs0⟩ : ∃ s0 : StL, s0 = { sv with kind := 0 } := ⟨_, rfl⟩
  repeat (first | refine tw_ldN rfl rfl G5.out (by first | exact wd_none rfl | exact wd_yes rfl rfl rfl) ?_ | refine tw_fnB #[encN n A3 c3, .string (⟨#[116, 121, 112, 101]⟩ : ByteArray)] (.string sv.typ) rfl (fun W => EF.out _ W) rfl (by first | exact wd_none rfl | exact wd_yes rfl rfl rfl) (fun W hW => by rw [hk1]; exact HFD.out W hW _) ?_ | refine tw_fnB #[encN n A3 c3, .string (⟨#[105, 100]⟩ : ByteArray)] (.string sv.id) rfl (fun W => EF.out _ W) rfl (by first | exact wd_none rfl | exact wd_yes rfl rfl rfl) (fun W hW => by rw [hk2]; exact HFD.out W hW _) ?_ | refine tw_fnB #[encN n A3 c3, .string (⟨#[102, 114, 111, 109]⟩ : ByteArray)] (.string sv.frm) rfl (fun W => EF.out _ W) rfl (by first | exact wd_none rfl | exact wd_yes rfl rfl rfl) (fun W hW => by rw [hk3]; exact HFD.out W hW _) ?_ | refine tw_fnB #[encN n A3 c3, .string (⟨#[116, 111]⟩ : ByteArray)] (.string sv.to) rfl (fun W => EF.out _ W) rfl (by first | exact wd_none rfl | exact wd_yes rfl rfl rfl) (fun W hW => by rw [hk4]; exact HFD.out W hW _) ?_ | refine tw_bldS0 sv A5 c5 rfl rfl rfl rfl rfl rfl (by first | exact wd_none rfl | exact wd_yes rfl rfl rfl) ?_ | refine tw_allocS w3.heap.size GS.out rfl (by first | exact wd_none rfl | exact wd_yes rfl rfl rfl) ?_ | refine tw_skip (wd_no rfl rfl rfl) ?_ | refine tw_mv (.inl rfl) rfl (by first | exact wd_none rfl | exact wd_yes rfl rfl rfl) ?_ | refine tw_mv (.inr rfl) rfl (by first | exact wd_none rfl | exact wd_yes rfl rfl rfl) ?_ | refine tw_pickL rfl rfl rfl (by first | exact wd_none rfl | exact wd_yes rfl rfl rfl) ?_ | refine tw_op1 _ rfl rfl (by first | exact wd_none rfl | exact wd_yes rfl rfl rfl) (fun ρ W hW h1 => by simp only [execOp, h1]; go_simp; first | done | rfl) ?_ | refine tw_op2 _ rfl rfl rfl (by first | exact wd_none rfl | exact wd_yes rfl rfl rfl) (fun ρ W hW h1 h2 => by simp only [execOp, h1, h2]; go_simp; first | done | rfl) ?_)
  dsimp only [wpT, List.reverse, List.reverseAux, FinT, PtS, List.take, List.drop]
  intro u9 W5 hW5 hu9
  obtain ⟨g, rfl, hg9, t9, hrow9⟩ := hu9.2
  simp only [Act.put, List.setIfInBounds_toArray, List.set_cons_zero, List.set_cons_succ]
  have hbs := below_setRow (B := w3.heap.size) (g := g) (ext_below hW5) hg9 #[.int .u8 0, .string sv.typ, .string sv.id, .string sv.frm, .string sv.to, .slice A5 sv.load.length c5]
  have SV := Lib.hid (show SAt (W5.setRow g #[.int .u8 0, .string sv.typ, .string sv.id, .string sv.frm, .string sv.to, .slice A5 sv.load.length c5]) g { sv with kind := 0 } A5 c5 from ⟨t9, setRow_heap W5 g _ _ _ _ hrow9⟩)
  have HROW := Lib.hid hrow9
  clear hu9 hrow9 hW5 G5 GS HFD EF hk1 hk2 hk3 hk4
  obtain ⟨W6, hW6⟩ : ∃ W6, W6 = W5.setRow g #[.int .u8 0, .string sv.typ, .string sv.id, .string sv.frm, .string sv.to, .slice A5 sv.load.length c5] := ⟨_, rfl⟩
  rw [← hW6] at hbs SV
  have HBS := Lib.hid hbs
  have HW6 := Lib.hid hW6
  have hs4 := X3.out.size
  have h2s4 := Z3.out.size
  clear hW6 hbs
  refine wpList_store_row rfl 27 _ _ rfl g #[.int .u8 0, .string sv.typ, .string sv.id, .string sv.frm, .string sv.to, .slice A5 sv.load.length c5] rfl rfl t9 _ HROW.out (by kernel_rfl) rfl (by simp [Value.oneCell']) ?_
  rw [← HW6.out]
  clear HROW HW6
  have EW := Lib.hid (enters_of (P := Tryz.prog) Tryz.func85 (by kernel_rfl) rfl)
  have EM := Lib.hid (enters_of (P := Tryz.prog) Tryz.func40 (by kernel_rfl) rfl)
  go_wp2
  go_loopw [8] (fun s8 wr => ∃ k : Nat, 1 ≤ k ∧ k ≤ 4 ∧ s8 = .int .u8 (k : Int) ∧ Hid (Below w3.heap.size w3 wr) ∧ Hid (SAt wr g { sv with kind := kindW n.name k } A5 c5)) (fun s8 _ => 4 - (intOf s8).toNat)
  case atStart => exact ⟨1, by omega, by omega, rfl, HBS, SV⟩
  case round =>
    obtain ⟨k, hk1, hk4, rfl, HB, HV⟩ := hrel
    have hsr := HB.out.size
    by_cases hlt : k ≤ 3
    · have HKS := Lib.hid (kindW_succ n.name k hk1)
      have HWD := Lib.hid (fun W => word_any (k : Int) W (by omega) (by omega))
      generalize wordI (k : Int) = wd at *
      cases hq : (wd.toList == n.name.toList)
      · have HVN : Hid (kindW n.name (k + 1) = kindW n.name k) := Lib.hid (by rw [HKS.out, hq]; rfl)
        go_wp2_with fail
        have G2 := Lib.hid (fun W (hW : Ext wr.drew W) => ((N3.out.ext HB.out).ext (ext_below hW)).c2)
        refine wp_region_typed rfl (by kernel_rfl) (by kernel_rfl) ?_
        repeat (first | refine tw_fnB #[.int .u8 (k : Int)] (.string wd) rfl (fun W => EW.out _ W) rfl (by first | exact wd_none rfl | exact wd_yes rfl rfl rfl) (fun W hW => (HWD.out W).mono fun e w' h => ⟨h.1, by rw [← h.2]; exact Below.refl _ _⟩) ?_ | refine tw_ldS rfl rfl G2.out (by first | exact wd_none rfl | exact wd_yes rfl rfl rfl) ?_ | refine tw_eqS wd n.name false hq rfl rfl rfl (by first | exact wd_none rfl | exact wd_yes rfl rfl rfl) ?_ | refine tw_skip (wd_no rfl rfl rfl) ?_ | refine tw_mv (.inl rfl) rfl (by first | exact wd_none rfl | exact wd_yes rfl rfl rfl) ?_ | refine tw_mv (.inr rfl) rfl (by first | exact wd_none rfl | exact wd_yes rfl rfl rfl) ?_ | refine tw_pickL rfl rfl rfl (by first | exact wd_none rfl | exact wd_yes rfl rfl rfl) ?_ | refine tw_op1 _ rfl rfl (by first | exact wd_none rfl | exact wd_yes rfl rfl rfl) (fun ρ W hW h1 => by simp only [execOp, h1]; go_simp; first | done | rfl) ?_ | refine tw_op2 _ rfl rfl rfl (by first | exact wd_none rfl | exact wd_yes rfl rfl rfl) (fun ρ W hW h1 h2 => by simp only [execOp, h1, h2]; go_simp; first | done | rfl) ?_)
        dsimp only [wpT, List.reverse, List.reverseAux, FinT]
        intro W7 hW7 _
        simp only [Act.put, List.setIfInBounds_toArray, List.set_cons_zero, List.set_cons_succ]
        have HB7 := Lib.hid (HB.out.trans ((ext_below hW7).mono HB.out.size))
        have HV7 := Lib.hid (HV.out.ext (ext_below hW7))
        clear hW7 G2
        rw [← HVN.out] at HV7
        go_wp2
        go_roundw
        case rel => exact ⟨k + 1, by omega, by omega, by go_num, HB7, HV7⟩
        case measure => simp [intOf]; omega
      · have HVN : Hid (kindW n.name (k + 1) = (k : Int)) := Lib.hid (by rw [HKS.out, hq]; rfl)
        go_wp2_with fail
        have G2 := Lib.hid (fun W (hW : Ext wr.drew W) => ((N3.out.ext HB.out).ext (ext_below hW)).c2)
        refine wp_region_typed rfl (by kernel_rfl) (by kernel_rfl) ?_
        repeat (first | refine tw_fnB #[.int .u8 (k : Int)] (.string wd) rfl (fun W => EW.out _ W) rfl (by first | exact wd_none rfl | exact wd_yes rfl rfl rfl) (fun W hW => (HWD.out W).mono fun e w' h => ⟨h.1, by rw [← h.2]; exact Below.refl _ _⟩) ?_ | refine tw_ldS rfl rfl G2.out (by first | exact wd_none rfl | exact wd_yes rfl rfl rfl) ?_ | refine tw_eqS wd n.name true hq rfl rfl rfl (by first | exact wd_none rfl | exact wd_yes rfl rfl rfl) ?_ | refine tw_skip (wd_no rfl rfl rfl) ?_ | refine tw_mv (.inl rfl) rfl (by first | exact wd_none rfl | exact wd_yes rfl rfl rfl) ?_ | refine tw_mv (.inr rfl) rfl (by first | exact wd_none rfl | exact wd_yes rfl rfl rfl) ?_ | refine tw_pickL rfl rfl rfl (by first | exact wd_none rfl | exact wd_yes rfl rfl rfl) ?_ | refine tw_op1 _ rfl rfl (by first | exact wd_none rfl | exact wd_yes rfl rfl rfl) (fun ρ W hW h1 => by simp only [execOp, h1]; go_simp; first | done | rfl) ?_ | refine tw_op2 _ rfl rfl rfl (by first | exact wd_none rfl | exact wd_yes rfl rfl rfl) (fun ρ W hW h1 h2 => by simp only [execOp, h1, h2]; go_simp; first | done | rfl) ?_)
        dsimp only [wpT, List.reverse, List.reverseAux, FinT]
        intro W7 hW7 _
        simp only [Act.put, List.setIfInBounds_toArray, List.set_cons_zero, List.set_cons_succ]
        have HB7 := Lib.hid (HB.out.trans ((ext_below hW7).mono HB.out.size))
        have HV7 := Lib.hid (HV.out.ext (ext_below hW7))
        clear hW7 G2
        have a0 := HV7.out.c0
        have b0 := HV7.out.fz 0
        have HV8 : Hid (SAt (W7.setCell ⟨g, 0, none⟩ (.int .u8 (k : Int))) g { sv with kind := kindW n.name (k + 1) } A5 c5) := Lib.hid (by
          rw [HVN.out]
          obtain ⟨t, h⟩ := HV7.out
          exact ⟨t, heap_setCell_same W7 g 0 _ _ _ h⟩)
        have HB8 : Hid (Below w3.heap.size w3 (W7.setCell ⟨g, 0, none⟩ (.int .u8 (k : Int)))) := Lib.hid (HB7.out.setCell (p := ⟨g, 0, none⟩) hg9 _)
        go_wp2
        go_roundw
        case rel => exact ⟨k + 1, by omega, by omega, by go_num, HB8, HV8⟩
        case measure => simp [intOf]; omega
    · obtain rfl : k = 4 := by omega
      rw [← HK0.out] at HV
      have HS9 : Hid (SAt wr g sv A5 c5) := HV
      have XR := Lib.hid (X3.out.trans (HB.out.mono X3.out.size))
      have SR := Lib.hid (S3.out.ext HB.out)
      have NR := Lib.hid (N3.out.ext HB.out)
      have RR := Lib.hid (R3.out.ext HB.out)
      clear HB HV
      have HMY := Lib.hid (fun W (hW : Below wr.heap.size wr W) => refsmay_any sv A5 c5 W (HSV.out ▸ ofV_sz hz htree) ((RR.out.ext hW).rdw (by rw [← hk5, ← hm5, List.length_map]) |> fun h => by rw [hm5, hk5] at h; exact h))
      have HGD : Box (goodI v = ((n.space.toList == ((⟨#[106, 97, 98, 98, 101, 114, 58, 99, 108, 105, 101, 110, 116]⟩ : ByteArray)).toList) && blanksI v && stnI sv)) := ⟨by rw [HSV.out]; unfold goodI clientL; rw [hnn]; simp only [Lib.toList_data]⟩
      generalize stnI sv = st at *
      generalize blanksI v = bb at *
      cases hq1 : (n.space.toList == ((⟨#[106, 97, 98, 98, 101, 114, 58, 99, 108, 105, 101, 110, 116]⟩ : ByteArray)).toList)
      · rw [hq1] at HGD
        go_wp2_with fail
        have GSV := Lib.hid (fun W (hW : Ext wr.drew W) => HS9.out.ext (ext_below hW))
        have G1 := Lib.hid (fun W (hW : Ext wr.drew W) => (NR.out.ext (ext_below hW)).c1)
        refine wp_region_typed_lazy 11 10 rfl (by kernel_rfl) (by kernel_rfl) (by kernel_rfl) ?_
        repeat (first | refine tw_ldSt rfl rfl GSV.out (by first | exact wd_none rfl | exact wd_yes rfl rfl rfl) ?_ | refine tw_ldS rfl rfl G1.out (by first | exact wd_none rfl | exact wd_yes rfl rfl rfl) ?_ | refine tw_eqS n.space (⟨#[106, 97, 98, 98, 101, 114, 58, 99, 108, 105, 101, 110, 116]⟩ : ByteArray) false hq1 rfl rfl rfl (by first | exact wd_none rfl | exact wd_yes rfl rfl rfl) ?_ | refine tw_fnB #[encS sv A5 c5] (.bool st) rfl (fun W => EM.out _ W) rfl (by first | exact wd_none rfl | exact wd_yes rfl rfl rfl) (fun W hW => HMY.out W (ext_below hW)) ?_ | refine tw_skip (wd_no rfl rfl rfl) ?_ | refine tw_mv (.inl rfl) rfl (by first | exact wd_none rfl | exact wd_yes rfl rfl rfl) ?_ | refine tw_mv (.inr rfl) rfl (by first | exact wd_none rfl | exact wd_yes rfl rfl rfl) ?_ | refine tw_pickL rfl rfl rfl (by first | exact wd_none rfl | exact wd_yes rfl rfl rfl) ?_ | refine tw_op1 _ rfl rfl (by first | exact wd_none rfl | exact wd_yes rfl rfl rfl) (fun ρ W hW h1 => by simp only [execOp, h1]; go_simp; first | done | rfl) ?_ | refine tw_op2 _ rfl rfl rfl (by first | exact wd_none rfl | exact wd_yes rfl rfl rfl) (fun ρ W hW h1 h2 => by simp only [execOp, h1, h2]; go_simp; first | done | rfl) ?_)
        dsimp only [wpT, List.reverse, List.reverseAux, FinT, List.take, List.drop, List.eraseIdx, List.append]
        refine ⟨?_, ?_⟩
        all_goals
          intro W8 hW8 _
          simp only [Act.put, List.setIfInBounds_toArray, List.set_cons_zero, List.set_cons_succ]
          have hb8 : Below wr.heap.size wr W8 := ext_below hW8
          have X8 := Lib.hid (XR.out.trans (hb8.mono XR.out.size))
          have S8 := Lib.hid (SR.out.ext hb8)
          have R8 := Lib.hid (RR.out.ext hb8)
          clear hb8 hW8 GSV G1
          have c0 := S8.out.c0
          have c1 := S8.out.c1
          have c2 := S8.out.c2
          have c4 := S8.out.c3
          have c6 := S8.out.c4
          have c7 := S8.out.c5
          have f0 := S8.out.fz 0
          have f1 := S8.out.fz 1
          have f2 := S8.out.fz 2
          have f3 := S8.out.fz 3
          have f4 := S8.out.fz 4
          have f5 := S8.out.fz 5
          unfold emS at c0 c1 c2 c4 c6 c7
          dsimp only at c0 c1 c2 c4 c6 c7
          unfold encS
          go_wp2
          obtain ⟨tt, hh⟩ := S8.out.put sv A5 c5
          refine bodyPost_ret (v := .tuple #[encS sv A5 c5, .bool false])
            (results_jid (fn := Tryz.f36) (p := 2) (s := 3) (ty := 27) rfl _ _ w.heap.size _ _ _ _ rfl rfl hh Tryz.underlying27 (by kernel_rfl)) rfl ?_
          rw [HGD.out, ← HSV.out]
          exact ⟨A5, c5, ts, rfl, by rw [← hk5]; exact hl5, hm5.trans hk5, (R8.out.put (Nat.lt_trans hgw1 hg2) _ _ _ _ _ _).mono (Nat.le_of_lt (Nat.lt_trans hgw1 hg2)), put6_below X8.out (Nat.le_refl _) _ _ _ _ _ _⟩
      · rw [hq1] at HGD
        cases bb
        · have HDUM := Box.mk (show True = True from rfl)
          go_wp2_with fail
          have GSV := Lib.hid (fun W (hW : Ext wr.drew W) => HS9.out.ext (ext_below hW))
          have G1 := Lib.hid (fun W (hW : Ext wr.drew W) => (NR.out.ext (ext_below hW)).c1)
          refine wp_region_typed_lazy 11 10 rfl (by kernel_rfl) (by kernel_rfl) (by kernel_rfl) ?_
          repeat (first | refine tw_ldSt rfl rfl GSV.out (by first | exact wd_none rfl | exact wd_yes rfl rfl rfl) ?_ | refine tw_ldS rfl rfl G1.out (by first | exact wd_none rfl | exact wd_yes rfl rfl rfl) ?_ | refine tw_eqS n.space (⟨#[106, 97, 98, 98, 101, 114, 58, 99, 108, 105, 101, 110, 116]⟩ : ByteArray) true hq1 rfl rfl rfl (by first | exact wd_none rfl | exact wd_yes rfl rfl rfl) ?_ | refine tw_fnB #[encS sv A5 c5] (.bool st) rfl (fun W => EM.out _ W) rfl (by first | exact wd_none rfl | exact wd_yes rfl rfl rfl) (fun W hW => HMY.out W (ext_below hW)) ?_ | refine tw_skip (wd_no rfl rfl rfl) ?_ | refine tw_mv (.inl rfl) rfl (by first | exact wd_none rfl | exact wd_yes rfl rfl rfl) ?_ | refine tw_mv (.inr rfl) rfl (by first | exact wd_none rfl | exact wd_yes rfl rfl rfl) ?_ | refine tw_pickL rfl rfl rfl (by first | exact wd_none rfl | exact wd_yes rfl rfl rfl) ?_ | refine tw_op1 _ rfl rfl (by first | exact wd_none rfl | exact wd_yes rfl rfl rfl) (fun ρ W hW h1 => by simp only [execOp, h1]; go_simp; first | done | rfl) ?_ | refine tw_op2 _ rfl rfl rfl (by first | exact wd_none rfl | exact wd_yes rfl rfl rfl) (fun ρ W hW h1 h2 => by simp only [execOp, h1, h2]; go_simp; first | done | rfl) ?_)
          dsimp only [wpT, List.reverse, List.reverseAux, FinT, List.take, List.drop, List.eraseIdx, List.append]
          refine ⟨?_, ?_⟩
          all_goals
            intro W8 hW8 _
            simp only [Act.put, List.setIfInBounds_toArray, List.set_cons_zero, List.set_cons_succ]
            have hb8 : Below wr.heap.size wr W8 := ext_below hW8
            have X8 := Lib.hid (XR.out.trans (hb8.mono XR.out.size))
            have S8 := Lib.hid (SR.out.ext hb8)
            have R8 := Lib.hid (RR.out.ext hb8)
            clear hb8 hW8 GSV G1
            have c0 := S8.out.c0
            have c1 := S8.out.c1
            have c2 := S8.out.c2
            have c4 := S8.out.c3
            have c6 := S8.out.c4
            have c7 := S8.out.c5
            have f0 := S8.out.fz 0
            have f1 := S8.out.fz 1
            have f2 := S8.out.fz 2
            have f3 := S8.out.fz 3
            have f4 := S8.out.fz 4
            have f5 := S8.out.fz 5
            unfold emS at c0 c1 c2 c4 c6 c7
            dsimp only at c0 c1 c2 c4 c6 c7
            unfold encS
            go_wp2
            obtain ⟨tt, hh⟩ := S8.out.put sv A5 c5
            refine bodyPost_ret (v := .tuple #[encS sv A5 c5, .bool false])
              (results_jid (fn := Tryz.f36) (p := 2) (s := 3) (ty := 27) rfl _ _ w.heap.size _ _ _ _ rfl rfl hh Tryz.underlying27 (by kernel_rfl)) rfl ?_
            rw [HGD.out, ← HSV.out]
            exact ⟨A5, c5, ts, rfl, by rw [← hk5]; exact hl5, hm5.trans hk5, (R8.out.put (Nat.lt_trans hgw1 hg2) _ _ _ _ _ _).mono (Nat.le_of_lt (Nat.lt_trans hgw1 hg2)), put6_below X8.out (Nat.le_refl _) _ _ _ _ _ _⟩
        · have HDUM := Box.mk (show True = True from rfl)
          go_wp2_with fail
          have GSV := Lib.hid (fun W (hW : Ext wr.drew W) => HS9.out.ext (ext_below hW))
          have G1 := Lib.hid (fun W (hW : Ext wr.drew W) => (NR.out.ext (ext_below hW)).c1)
          refine wp_region_typed_lazy 11 10 rfl (by kernel_rfl) (by kernel_rfl) (by kernel_rfl) ?_
          repeat (first | refine tw_ldSt rfl rfl GSV.out (by first | exact wd_none rfl | exact wd_yes rfl rfl rfl) ?_ | refine tw_ldS rfl rfl G1.out (by first | exact wd_none rfl | exact wd_yes rfl rfl rfl) ?_ | refine tw_eqS n.space (⟨#[106, 97, 98, 98, 101, 114, 58, 99, 108, 105, 101, 110, 116]⟩ : ByteArray) true hq1 rfl rfl rfl (by first | exact wd_none rfl | exact wd_yes rfl rfl rfl) ?_ | refine tw_fnB #[encS sv A5 c5] (.bool st) rfl (fun W => EM.out _ W) rfl (by first | exact wd_none rfl | exact wd_yes rfl rfl rfl) (fun W hW => HMY.out W (ext_below hW)) ?_ | refine tw_skip (wd_no rfl rfl rfl) ?_ | refine tw_mv (.inl rfl) rfl (by first | exact wd_none rfl | exact wd_yes rfl rfl rfl) ?_ | refine tw_mv (.inr rfl) rfl (by first | exact wd_none rfl | exact wd_yes rfl rfl rfl) ?_ | refine tw_pickL rfl rfl rfl (by first | exact wd_none rfl | exact wd_yes rfl rfl rfl) ?_ | refine tw_op1 _ rfl rfl (by first | exact wd_none rfl | exact wd_yes rfl rfl rfl) (fun ρ W hW h1 => by simp only [execOp, h1]; go_simp; first | done | rfl) ?_ | refine tw_op2 _ rfl rfl rfl (by first | exact wd_none rfl | exact wd_yes rfl rfl rfl) (fun ρ W hW h1 h2 => by simp only [execOp, h1, h2]; go_simp; first | done | rfl) ?_)
          dsimp only [wpT, List.reverse, List.reverseAux, FinT, List.take, List.drop, List.eraseIdx, List.append]
          refine ⟨?_, ?_⟩
          all_goals
            intro W8 hW8 _
            simp only [Act.put, List.setIfInBounds_toArray, List.set_cons_zero, List.set_cons_succ]
            have hb8 : Below wr.heap.size wr W8 := ext_below hW8
            have X8 := Lib.hid (XR.out.trans (hb8.mono XR.out.size))
            have S8 := Lib.hid (SR.out.ext hb8)
            have R8 := Lib.hid (RR.out.ext hb8)
            clear hb8 hW8 GSV G1
            have c0 := S8.out.c0
            have c1 := S8.out.c1
            have c2 := S8.out.c2
            have c4 := S8.out.c3
            have c6 := S8.out.c4
            have c7 := S8.out.c5
            have f0 := S8.out.fz 0
            have f1 := S8.out.fz 1
            have f2 := S8.out.fz 2
            have f3 := S8.out.fz 3
            have f4 := S8.out.fz 4
            have f5 := S8.out.fz 5
            unfold emS at c0 c1 c2 c4 c6 c7
            dsimp only at c0 c1 c2 c4 c6 c7
            unfold encS
            go_wp2
            obtain ⟨tt, hh⟩ := S8.out.put sv A5 c5
            refine bodyPost_ret (v := .tuple #[encS sv A5 c5, .bool st])
              (results_jid (fn := Tryz.f36) (p := 2) (s := 3) (ty := 27) rfl _ _ w.heap.size _ _ _ _ rfl rfl hh Tryz.underlying27 (by kernel_rfl)) rfl ?_
            rw [HGD.out, show (true && true && st) = st from rfl, ← HSV.out]
            exact ⟨A5, c5, ts, rfl, by rw [← hk5]; exact hl5, hm5.trans hk5, (R8.out.put (Nat.lt_trans hgw1 hg2) _ _ _ _ _ _).mono (Nat.le_of_lt (Nat.lt_trans hgw1 hg2)), put6_below X8.out (Nat.le_refl _) _ _ _ _ _ _⟩
end Go.Proofs.YtnmnpnofdgdigaaGreatDoor
end
section
/- Layer 22 (stanza): the stanza of an element, the document's reading. -/
namespace Go.Proofs.YtnmnpnofdgdigaaGreatDoor
open Go.RowKit
set_option linter.unusedSimpArgs false
set_option linter.unusedVariables false
set_option maxHeartbeats 16000000 in
set_option maxRecDepth 10000 in
theorem refread_any (v : List NodeL) (A : Option Addr) (c : Nat) (w : World) (hc : v.length ≤ c) (hz : SzV 1000000000 v) (hr : RdV w w.heap.size A v) :
    Calls Tryz.prog 9 #[.slice A v.length c] w (ReadPost v w) := by
  obtain ⟨W0, hW0⟩ : ∃ W0, W0 = w.alloc (.cells #[.int .u8 0, .string ⟨#[]⟩, .string ⟨#[]⟩, .string ⟨#[]⟩, .string ⟨#[]⟩, .slice none 0 0] 27) := ⟨_, rfl⟩
  have hX0 : Below w.heap.size w W0 := by rw [hW0]; exact (Below.refl _ _).alloc (Nat.le_refl _) _
  have hS0 : SAt W0 w.heap.size emS none 0 := by rw [hW0]; exact SAt.new _ _ emS none 0
  have HS := Lib.hid hS0
  have HX0 := Lib.hid hX0
  have HR := Lib.hid ((hr.below hX0 (Nat.le_refl _)).more hX0.size)
  have H1 := Lib.hid (refsp_any v A c W0 hc hz HR.out)
  have HWE := Lib.hid hW0
  clear hW0 hX0 hS0 hr
  have hg0 := HS.out.lt
  cases hsp : spaceI v with
  | false =>
    have HE : Box (spaceErr v = 8) := ⟨by unfold spaceErr; rw [hsp]; rfl⟩
    have HP : Box (readS v = emS ∧ readE v = 8) := ⟨by unfold readS readE; rw [HE.out]; exact ⟨rfl, rfl⟩⟩
    unfold ReadPost
    rw [hsp] at H1
    rw [HP.out.1, HP.out.2]
    clear hsp
    go_enter Tryz.func9, Tryz.ntmps9
    go_wp2_with fail
    rw [← HWE.out]
    refine H1.out.mono ?_
    rintro e w1 ⟨rfl, hb1⟩
    have S1 := Lib.hid (HS.out.ext hb1)
    have X1 := Lib.hid (HX0.out.trans (hb1.mono HX0.out.size))
    clear hb1
    have c0 := S1.out.c0
    have c1 := S1.out.c1
    have c2 := S1.out.c2
    have c3 := S1.out.c3
    have c4 := S1.out.c4
    have c5 := S1.out.c5
    have f0 := S1.out.fz 0
    have f1 := S1.out.fz 1
    have f2 := S1.out.fz 2
    have f3 := S1.out.fz 3
    have f4 := S1.out.fz 4
    have f5 := S1.out.fz 5
    unfold emS at c0 c1 c2 c3 c4 c5
    dsimp only at c0 c1 c2 c3 c4 c5
    go_wp2
    obtain ⟨tt, hh⟩ := S1.out.put emS none 0
    exact bodyPost_ret (v := .tuple #[encS emS none 0, .int .i64 8])
      (results_jid (fn := Tryz.f9) (p := 2) (s := 3) (ty := 27) rfl _ _ w.heap.size _ _ _ _ rfl rfl hh Tryz.underlying27 (by kernel_rfl)) rfl
      ⟨none, 0, [], rfl, Nat.le_refl _, rfl, RowT.nil _ _, put6_below X1.out (Nat.le_refl _) _ _ _ _ _ _⟩
  | true =>
    have HE : Box (spaceErr v = 0) := ⟨by unfold spaceErr; rw [hsp]; rfl⟩
    have htree : treeI v = true := by unfold spaceI at hsp; simp_all
    have H2 := Lib.hid (fun W (hW : Below W0.heap.size W0 W) => refof_any v A c W hc hz ((HR.out.below hW (Nat.le_refl _)).more hW.size) htree)
    unfold OfPost at H2
    rw [hsp] at H1
    unfold ReadPost
    have HRS : Box (readS v = if goodI v then ofV v else emS) := ⟨by unfold readS; rw [HE.out]; rfl⟩
    have HRE : Box (readE v = if goodI v then 0 else 220) := ⟨by unfold readE; rw [HE.out]; rfl⟩
    generalize readS v = rs at *
    generalize readE v = re at *
    generalize ofV v = sv at *
    cases hgd : goodI v
    all_goals
      rw [hgd] at HRS HRE H2
      have hrs := HRS.out
      have hre := HRE.out
      clear HRS HRE
      try simp only [Bool.false_eq_true, if_false] at hrs hre
      try simp only [if_true] at hrs hre
      have hrs' := hrs.symm
      have hre' := hre.symm
      clear hrs hre
      subst hrs' hre'
      clear hgd hsp HE
      go_enter Tryz.func9, Tryz.ntmps9
      go_wp2_with fail
      rw [← HWE.out]
      refine H1.out.mono ?_
      rintro e w1 ⟨rfl, hb1⟩
      have S1 := Lib.hid (HS.out.ext hb1)
      have X1 := Lib.hid (HX0.out.trans (hb1.mono HX0.out.size))
      have HX1 := Lib.hid hb1
      clear hb1
      have hg1 := S1.out.lt
      go_wp2_with fail
      refine (H2.out w1 HX1.out).mono ?_
      rintro e w2 ⟨A5, c5, ts, rfl, hl5, hm5, hrow5, hb2⟩
      have hsz2 := hb2.size
      obtain ⟨W3, hW3⟩ : ∃ W3, W3 = w2.alloc (.cells #[.int .u8 sv.kind, .string sv.typ, .string sv.id, .string sv.frm, .string sv.to, .slice A5 sv.load.length c5] 27) := ⟨_, rfl⟩
      have hX3 : Below w2.heap.size w2 W3 := by rw [hW3]; exact (Below.refl _ _).alloc (Nat.le_refl _) _
      have S3 := Lib.hid ((S1.out.ext hb2).ext hX3)
      have V3 := Lib.hid (show SAt W3 w2.heap.size sv A5 c5 by rw [hW3]; exact SAt.new _ _ _ _ _)
      have X3 := Lib.hid ((X1.out.trans (hb2.mono X1.out.size)).trans (hX3.mono (X1.out.trans (hb2.mono X1.out.size)).size))
      have R3 := Lib.hid (hrow5.ext hX3)
      have a0 := V3.out.c0
      have a1 := V3.out.c1
      have a2 := V3.out.c2
      have a3 := V3.out.c3
      have a4 := V3.out.c4
      have a5 := V3.out.c5
      have c0 := S3.out.c0
      have c1 := S3.out.c1
      have c2 := S3.out.c2
      have c4 := S3.out.c3
      have c6 := S3.out.c4
      have c7 := S3.out.c5
      have f0 := S3.out.fz 0
      have f1 := S3.out.fz 1
      have f2 := S3.out.fz 2
      have f3 := S3.out.fz 3
      have f4 := S3.out.fz 4
      have f5 := S3.out.fz 5
      unfold emS at c0 c1 c2 c4 c6 c7
      dsimp only at c0 c1 c2 c4 c6 c7
      rw [hW3] at a0 a1 a2 a3 a4 a5 c0 c1 c2 c4 c6 c7 f0 f1 f2 f3 f4 f5
      have HW3 := Lib.hid hW3
      unfold encS
      clear hW3 hX3 hrow5 hb2
      go_wp2
      rw [← HW3.out]
    · obtain ⟨tt, hh⟩ := S3.out.put emS none 0
      refine bodyPost_ret (v := .tuple #[encS emS none 0, .int .i64 220])
        (results_jid (fn := Tryz.f9) (p := 2) (s := 3) (ty := 27) rfl _ _ w.heap.size _ _ _ _ rfl rfl hh Tryz.underlying27 (by kernel_rfl)) rfl ?_
      exact ⟨none, 0, [], rfl, Nat.le_refl _, rfl, RowT.nil _ _, put6_below X3.out (Nat.le_refl _) _ _ _ _ _ _⟩
    · obtain ⟨tt, hh⟩ := S3.out.put sv A5 c5
      refine bodyPost_ret (v := .tuple #[encS sv A5 c5, .int .i64 0])
        (results_jid (fn := Tryz.f9) (p := 2) (s := 3) (ty := 27) rfl _ _ w.heap.size _ _ _ _ rfl rfl hh Tryz.underlying27 (by kernel_rfl)) rfl ?_
      exact ⟨A5, c5, ts, rfl, hl5, hm5, (R3.out.put hg1 _ _ _ _ _ _).mono (Nat.le_of_lt hg1), put6_below X3.out (Nat.le_refl _) _ _ _ _ _ _⟩
end Go.Proofs.YtnmnpnofdgdigaaGreatDoor
end
