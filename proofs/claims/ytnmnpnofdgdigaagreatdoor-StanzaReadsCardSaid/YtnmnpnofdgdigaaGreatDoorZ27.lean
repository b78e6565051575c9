import Derived.Test.YtnmnpnofdgdigaaGreatDoorZ26
import Derived.Laws.CopyOwn
import Derived.Test.YtnmnpnofdgdigaaGreatDoorZ25
set_option linter.all false
section
/- Layer 22 (stanza): the stanza of an element, the program's. -/
namespace Go.Proofs.YtnmnpnofdgdigaaGreatDoor
open Go.RowKit
set_option linter.unusedSimpArgs false
set_option linter.unusedVariables false
def ReadPost (v : List NodeL) (w : World) (e : Ending) (w' : World) : Prop :=
  ∃ A c ts, e = .returned (.tuple #[encS (readS v) A c, .int .i64 (readE v)]) ∧ (readS v).load.length ≤ c ∧ ts.map (·.1) = (readS v).load ∧ RowT w.heap.size (.slice A (readS v).load.length c) w' ts ∧ Below w.heap.size w w'
theorem own_at {w w' : World} {base s n : Nat} {e : TypeId} {v : Value} {xs : List Value} (h : w.ownsRow base e s v n xs) (hk : ∀ k, base ≤ k → k < w.heap.size → w'.heap[k]? = w.heap[k]?) : w'.ownsRow base e s v n xs := by
  refine ⟨h.1, ?_⟩
  rcases h.2 with h1 | ⟨g, cap, cur, h1, h2, h3, h4⟩
  · exact .inl h1
  · exact .inr ⟨g, cap, cur, h1, h2, (hk g h2 (Array.getElem?_eq_some_iff.1 h3).1).trans h3, h4⟩
theorem NewO.at {base : Nat} {v : Value} {w w' : World} {A : Option Addr} {l : List AttrL} (h : NewO base v w A l) (hs : w.heap.size ≤ w'.heap.size) (hk : ∀ k, base ≤ k → k < w.heap.size → w'.heap[k]? = w.heap[k]?) : NewO base v w' A l := fun h0 => by
  obtain ⟨b, off, h1, h2, h3, h4, h5⟩ := h h0
  exact ⟨b, off, h1, h2, h3, Nat.lt_of_lt_of_le h4 hs, fun i a hi => by
    obtain ⟨q0, q1, q2⟩ := h5 i a hi
    have hc : ∀ q : Nat, w'.cell? ⟨b, q, none⟩ = w.cell? ⟨b, q, none⟩ := fun q => World.cell?_of_block (hk b h2 h4)
    exact ⟨(hc _).trans q0, (hc _).trans q1, (hc _).trans q2⟩⟩
theorem RowT.at {base : Nat} {u : Value} {w w' : World} {ts : List TreeH} (h : RowT base u w ts) (hs : w.heap.size ≤ w'.heap.size) (hk : ∀ k, base ≤ k → k < w.heap.size → w'.heap[k]? = w.heap[k]?) : RowT base u w' ts := by
  refine ⟨own_at h.1 hk, fun x hx => ?_⟩
  obtain ⟨q1, q2, l, q3, q4, q5, q6⟩ := h.2 x hx
  exact ⟨q1, q2, l, q3, own_at q4 hk, q5, fun i y hi => ⟨(q6 i y hi).1, (q6 i y hi).2.at hs hk⟩⟩
theorem RowT.mono {base base' : Nat} {u : Value} {w : World} {ts : List TreeH} (h : RowT base u w ts) (hb : base' ≤ base) : RowT base' u w ts := by
  refine ⟨own_mono h.1 hb, fun x hx => ?_⟩
  obtain ⟨q1, q2, l, q3, q4, q5, q6⟩ := h.2 x hx
  exact ⟨q1, q2, l, q3, own_mono q4 hb, q5, fun i y hi => ⟨(q6 i y hi).1, fun h00 => by
    obtain ⟨b', off', e1, e2, e3⟩ := (q6 i y hi).2 h00
    exact ⟨b', off', e1, Nat.le_trans hb e2, e3⟩⟩⟩
theorem put6_size (w : World) (g : Nat) (a b c d e f : Value) : (put6 w g a b c d e f).heap.size = w.heap.size := by simp [put6, World.setCell]
theorem RowT.put {base : Nat} {u : Value} {w : World} {ts : List TreeH} (h : RowT base u w ts) {g : Nat} (hg : g < base) (a b c d e f : Value) : RowT base u (put6 w g a b c d e f) ts :=
  h.at (by rw [put6_size]; exact Nat.le_refl _) (fun k hk _ => put6_other (by omega) _ _ _ _ _ _)
/-! ### sizes -/
theorem valAt_sz {l : List AttrL} {M : Nat} (h : ∀ a ∈ l, SzA M a) (o : Option Nat) : (valAt l o).size ≤ M := by
  unfold valAt
  cases o with
  | none => exact Nat.zero_le _
  | some i =>
    cases hq : l[i]? with
    | none => simp only [hq]; exact Nat.zero_le _
    | some a => simp only [hq]; exact (h a (List.mem_of_getElem? hq)).2.2
theorem part_szv {v : List NodeL} {M : Nat} (h : SzV M v) (k : Nat) : SzV M (partI v k) := by
  unfold partI
  refine ⟨?_, fun n hn => h.2 n (List.mem_of_mem_drop (List.mem_of_mem_take hn))⟩
  have := h.1
  simp only [List.length_take, List.length_drop]
  omega
theorem elems_szw {v : List NodeL} (hz : SzV 1000000000 v) (ht : treeI v = true) : SzW (elemsI v) := by
  have hl0 := (tree_parts ht).1
  obtain ⟨e0, he0, _⟩ := tree_ends ht hl0
  have h1 := (chain_start he0).lt (by have := (tree_parts ht).2.1; omega)
  have h2 := (endN_le v 12 0 e0 he0).2
  have h3 := (tree_parts ht).2.1
  have h4 : (kidsI v 0).length ≤ 512 := by
    unfold kidsI
    rw [kidL_len]
    omega
  unfold elemsI elemsK
  refine ⟨?_, fun x hx => ?_⟩
  · rw [List.length_map]
    have := List.length_filter_le (fun k => decide ((nodeAt v k).kind = 1)) (kidsI v 0)
    omega
  · obtain ⟨k, _, rfl⟩ := List.mem_map.1 hx
    exact part_szv hz k
theorem ofV_sz {v : List NodeL} (hz : SzV 1000000000 v) (ht : treeI v = true) : SzS (ofV v) := by
  have hl0 := (tree_parts ht).1
  have hn := (szv_get hz (node_get hl0)).2.2.2.1.2
  have hk := kind_range (nodeAt v 0).name
  exact ⟨⟨hk.1, show kindI (nodeAt v 0).name < 256 by omega⟩, valAt_sz hn _, valAt_sz hn _, valAt_sz hn _, valAt_sz hn _, elems_szw hz ht⟩
set_option maxHeartbeats 16000000 in
set_option maxRecDepth 10000 in
theorem sread_any (v : List NodeL) (A : Option Addr) (c : Nat) (w : World) (hc : v.length ≤ c) (hz : SzV 1000000000 v) (hr : RdV w w.heap.size A v) (hg : Glb w) :
    Calls Tryz.prog 8 #[.slice A v.length c] w (ReadPost v w) := by
  obtain ⟨W0, hW0⟩ : ∃ W0, W0 = w.alloc (.cells #[.int .u8 0, .string ⟨#[]⟩, .string ⟨#[]⟩, .string ⟨#[]⟩, .string ⟨#[]⟩, .slice none 0 0] 27) := ⟨_, rfl⟩
  have hX0 : Below w.heap.size w W0 := by rw [hW0]; exact (Below.refl _ _).alloc (Nat.le_refl _) _
  have hS0 : SAt W0 w.heap.size emS none 0 := by rw [hW0]; exact SAt.new _ _ emS none 0
  have HS := Lib.hid hS0
  have HX0 := Lib.hid hX0
  have HR := Lib.hid ((hr.below hX0 (Nat.le_refl _)).more hX0.size)
  have H1 := Lib.hid (spcheck_any v A c W0 hc hz HR.out)
  have HWE := Lib.hid hW0
  have HG := Lib.hid hg
  clear hW0 hX0 hS0 hr hg
  cases hsp : spaceI v with
  | false =>
    have HE : Box (spaceErr v = 8) := ⟨by unfold spaceErr; rw [hsp]; rfl⟩
    have HP : Box (readS v = emS ∧ readE v = 8) := ⟨by unfold readS readE; rw [HE.out]; exact ⟨rfl, rfl⟩⟩
    unfold ReadPost
    rw [HE.out] at H1
    rw [HP.out.1, HP.out.2]
    clear hsp
    go_enter Tryz.func8, Tryz.ntmps8
    go_wp2_with fail
    rw [← HWE.out]
    refine H1.out.mono ?_
    rintro e w1 ⟨rfl, hb1⟩
    have S1 := Lib.hid (HS.out.ext hb1)
    have X1 := Lib.hid (HX0.out.trans (hb1.mono HX0.out.size))
    clear hb1
    have c0 := S1.out.c0
    have c1 := S1.out.c1
    have c2 := S1.out.c2
    have c3 := S1.out.c3
    have c4 := S1.out.c4
    have c5 := S1.out.c5
    have f0 := S1.out.fz 0
    have f1 := S1.out.fz 1
    have f2 := S1.out.fz 2
    have f3 := S1.out.fz 3
    have f4 := S1.out.fz 4
    have f5 := S1.out.fz 5
    unfold emS at c0 c1 c2 c3 c4 c5
    dsimp only at c0 c1 c2 c3 c4 c5
    go_wp2
    obtain ⟨tt, hh⟩ := S1.out.put emS none 0
    exact bodyPost_ret (v := .tuple #[encS emS none 0, .int .i64 8])
      (results_jid (fn := Tryz.f8) (p := 2) (s := 3) (ty := 27) rfl _ _ w.heap.size _ _ _ _ rfl rfl hh Tryz.underlying27 (by kernel_rfl)) rfl
      ⟨none, 0, [], rfl, Nat.le_refl _, rfl, RowT.nil _ _, put6_below X1.out (Nat.le_refl _) _ _ _ _ _ _⟩
  | true =>
    have HE : Box (spaceErr v = 0) := ⟨by unfold spaceErr; rw [hsp]; rfl⟩
    rw [HE.out] at H1
    have htree : treeI v = true := by unfold spaceI at hsp; simp_all
    have hl0 := (tree_parts htree).1
    obtain ⟨b, off, rfl, hb, hcc⟩ := HR.out hl0
    obtain ⟨d0, d1, d2, ⟨A3, c3, d3, hl3, hA3⟩, d4, d5⟩ := hcc 0 (nodeAt v 0) (node_get hl0)
    have HN : Box (nodeAt v 0 = nodeAt v 0) := ⟨rfl⟩
    generalize hnn : nodeAt v 0 = n at *
    rw [Nat.zero_mul, Nat.add_zero] at d0 d1 d2 d3 d4 d5
    unfold ReadPost
    go_enter Tryz.func8, Tryz.ntmps8
    go_wp2_with fail
    rw [← HWE.out]
    refine H1.out.mono ?_
    rintro e w1 ⟨rfl, hb1⟩
    have S1 := Lib.hid (HS.out.ext hb1)
    have X1 := Lib.hid (HX0.out.trans (hb1.mono HX0.out.size))
    have e0 := (hb1.cell (p := ⟨b, off, none⟩) hb).trans d0
    have e1 := (hb1.cell (p := ⟨b, off + 1, none⟩) hb).trans d1
    have e2 := (hb1.cell (p := ⟨b, off + 2, none⟩) hb).trans d2
    have e3 := (hb1.cell (p := ⟨b, off + 3, none⟩) hb).trans d3
    have e4 := (hb1.cell (p := ⟨b, off + 4, none⟩) hb).trans d4
    have e5 := (hb1.cell (p := ⟨b, off + 5, none⟩) hb).trans d5
    have HN1 := Lib.hid (NRow.new w1 36 n A3 c3)
    obtain ⟨W2, hW2⟩ : ∃ W2, W2 = w1.alloc (.cells #[.int .u8 n.kind, .string n.space, .string n.name, .slice A3 n.attrs.length c3, .string n.text, .int .i64 n.many] 36) := ⟨_, rfl⟩
    rw [← hW2] at HN1
    have hX2 : Below w1.heap.size w1 W2 := by rw [hW2]; exact (Below.refl _ _).alloc (Nat.le_refl _) _
    have Y2 := Lib.hid (hb1.trans (hX2.mono hb1.size))
    have X2 := Lib.hid (X1.out.trans (hX2.mono X1.out.size))
    have S2 := Lib.hid (S1.out.ext hX2)
    have HRA := Lib.hid ((hA3.below Y2.out (Nat.le_refl _)).more Y2.out.size)
    have HE5 := Lib.hid (within_any v (some ⟨b, off, none⟩) c W2 hc hz ((HR.out.below Y2.out (Nat.le_refl _)).more Y2.out.size) htree)
    unfold ElemsPost at HE5
    have HW2 := Lib.hid hW2
    have hN1 : NRow W2 w1.heap.size n A3 c3 := HN1.out
    have hgw1 := S1.out.lt
    clear hW2 hX2 hb1 hcc d0 d1 d2 d3 d4 d5 hA3 HR S1
    have hg2 := HN1.out.lt
    go_wp2_with fail
    rw [← HW2.out]
    refine HE5.out.mono ?_
    rintro e w3 ⟨A5, c5, ts, rfl, hl5, hm5, hrow5, hb3⟩
    have X3 := Lib.hid (X2.out.trans (hb3.mono X2.out.size))
    have S3 := Lib.hid (S2.out.ext hb3)
    have N3 := Lib.hid (HN1.out.ext hb3)
    have R3 := Lib.hid hrow5
    have Z3 := Lib.hid hb3
    clear hb3 hrow5 e0 e1 e2 e3 e4 e5 hN1
    have HIX : Box (placeI (fstP (eqT n.name) kindNames) = placeI (fstP (eqT n.name) kindNames)) := ⟨rfl⟩
    have hix := HIX.out
    have HKI : Box ((if 0 > placeI (fstP (eqT n.name) kindNames) then 0 else placeI (fstP (eqT n.name) kindNames)) = kindI n.name) := ⟨rfl⟩
    have hkr := kind_range n.name
    generalize hpl : placeI (fstP (eqT n.name) kindNames) = pl at *
    have HPL := Lib.hid hpl
    clear hpl hix HIX
    go_wp2_with fail
    have G2 := Lib.hid (fun W (hW : Ext w3.drew W) => (N3.out.ext (ext_below hW)).c2)
    refine wp_region_typed rfl (by kernel_rfl) (by kernel_rfl) ?_
    repeat (first | refine tw_names rfl (by first | exact wd_none rfl | exact wd_yes rfl rfl rfl) ?_ | refine tw_idx _ n.name pl HPL.out (by decide) rfl rfl rfl (by first | exact wd_none rfl | exact wd_yes rfl rfl rfl) ?_ | refine tw_ldS rfl rfl G2.out (by first | exact wd_none rfl | exact wd_yes rfl rfl rfl) ?_ | refine tw_skip (wd_no rfl rfl rfl) ?_ | refine tw_mv (.inl rfl) rfl (by first | exact wd_none rfl | exact wd_yes rfl rfl rfl) ?_ | refine tw_mv (.inr rfl) rfl (by first | exact wd_none rfl | exact wd_yes rfl rfl rfl) ?_ | refine tw_pickL rfl rfl rfl (by first | exact wd_none rfl | exact wd_yes rfl rfl rfl) ?_ | refine tw_op1 _ rfl rfl (by first | exact wd_none rfl | exact wd_yes rfl rfl rfl) (fun ρ W hW h1 => by simp only [execOp, h1]; go_simp; first | done | rfl) ?_ | refine tw_op2 _ rfl rfl rfl (by first | exact wd_none rfl | exact wd_yes rfl rfl rfl) (fun ρ W hW h1 h2 => by simp only [execOp, h1, h2]; go_simp; first | done | rfl) ?_)
    dsimp only [wpT, List.reverse, List.reverseAux, FinT, SlS]
    intro u1 w4 hW4 _
    have hb4 : Below w3.heap.size w3 w4 := ext_below hW4
    have X4 := Lib.hid (X3.out.trans (hb4.mono X3.out.size))
    have S4 := Lib.hid (S3.out.ext hb4)
    have N4 := Lib.hid (N3.out.ext hb4)
    have R4 := Lib.hid (R3.out.ext hb4)
    have Z4 := Lib.hid (Z3.out.trans (hb4.mono Z3.out.size))
    simp only [Act.put, List.setIfInBounds_toArray, List.set_cons_zero, List.set_cons_succ]
    clear hW4 hb4 G2
    have hat := (szv_get hz (node_get hl0)).2.2.2.1.1
    rw [hnn] at hat
    have HFD := Lib.hid (fun W (hW : Ext w4.drew W) nm => find_any n A3 c3 nm W ((HRA.out.below (Z4.out.trans ((ext_below hW).mono Z4.out.size)) (Nat.le_refl _)).more (Z4.out.trans ((ext_below hW).mono Z4.out.size)).size) hl3 hat)
    have EF := Lib.hid (enters_of (P := Tryz.prog) Tryz.func34 (by kernel_rfl) rfl)
    have G5 := Lib.hid (fun W (hW : Ext w4.drew W) => N4.out.ext (ext_below hW))
    have GS := Lib.hid (fun W (hW : Ext w4.drew W) => (ext_below hW).size)
    obtain ⟨sv, hsv⟩ : ∃ sv, sv = ofV v := ⟨_, rfl⟩
    have HSV := Lib.hid hsv
    have hk0 : sv.kind = kindI n.name := by rw [hsv]; show kindI (nodeAt v 0).name = _; rw [hnn]
    have hk1 : sv.typ = findI n (⟨#[116, 121, 112, 101]⟩ : ByteArray) := by rw [hsv]; show findI (nodeAt v 0) _ = _; rw [hnn]
    have hk2 : sv.id = findI n (⟨#[105, 100]⟩ : ByteArray) := by rw [hsv]; show findI (nodeAt v 0) _ = _; rw [hnn]
    have hk3 : sv.frm = findI n (⟨#[102, 114, 111, 109]⟩ : ByteArray) := by rw [hsv]; show findI (nodeAt v 0) _ = _; rw [hnn]
    have hk4 : sv.to = findI n (⟨#[116, 111]⟩ : ByteArray) := by rw [hsv]; show findI (nodeAt v 0) _ = _; rw [hnn]
    have hk5 : elemsI v = sv.load := by rw [hsv]; rfl
    have hkr0 : 0 ≤ sv.kind ∧ sv.kind < 256 := by rw [hk0]; omega
    rw [← hk0] at HKI
    rw [hk5] at R4
    clear hsv hk0 hkr
    go_wp2_with fail
    refine wp_region_typed_tail 14 rfl (by kernel_rfl) (by kernel_rfl) (by kernel_rfl) ?_
    rw [hk5]
    repeat (first | refine tw_max0 pl sv.kind HKI.out rfl rfl (by first | exact wd_none rfl | exact wd_yes rfl rfl rfl) ?_ | refine tw_cvu sv.kind hkr0.1 hkr0.2 rfl rfl (by first | exact wd_none rfl | exact wd_yes rfl rfl rfl) ?_ | refine tw_ldN rfl rfl G5.out (by first | exact wd_none rfl | exact wd_yes rfl rfl rfl) ?_ | refine tw_fnB #[encN n A3 c3, .string (⟨#[116, 121, 112, 101]⟩ : ByteArray)] (.string sv.typ) rfl (fun W => EF.out _ W) rfl (by first | exact wd_none rfl | exact wd_yes rfl rfl rfl) (fun W hW => by rw [hk1]; exact HFD.out W hW _) ?_ | refine tw_fnB #[encN n A3 c3, .string (⟨#[105, 100]⟩ : ByteArray)] (.string sv.id) rfl (fun W => EF.out _ W) rfl (by first | exact wd_none rfl | exact wd_yes rfl rfl rfl) (fun W hW => by rw [hk2]; exact HFD.out W hW _) ?_ | refine tw_fnB #[encN n A3 c3, .string (⟨#[102, 114, 111, 109]⟩ : ByteArray)] (.string sv.frm) rfl (fun W => EF.out _ W) rfl (by first | exact wd_none rfl | exact wd_yes rfl rfl rfl) (fun W hW => by rw [hk3]; exact HFD.out W hW _) ?_ | refine tw_fnB #[encN n A3 c3, .string (⟨#[116, 111]⟩ : ByteArray)] (.string sv.to) rfl (fun W => EF.out _ W) rfl (by first | exact wd_none rfl | exact wd_yes rfl rfl rfl) (fun W hW => by rw [hk4]; exact HFD.out W hW _) ?_ | refine tw_bldS sv A5 c5 rfl rfl rfl rfl rfl rfl rfl (by first | exact wd_none rfl | exact wd_yes rfl rfl rfl) ?_ | refine tw_allocS w4.heap.size GS.out rfl (by first | exact wd_none rfl | exact wd_yes rfl rfl rfl) ?_ | refine tw_skip (wd_no rfl rfl rfl) ?_ | refine tw_mv (.inl rfl) rfl (by first | exact wd_none rfl | exact wd_yes rfl rfl rfl) ?_ | refine tw_mv (.inr rfl) rfl (by first | exact wd_none rfl | exact wd_yes rfl rfl rfl) ?_ | refine tw_pickL rfl rfl rfl (by first | exact wd_none rfl | exact wd_yes rfl rfl rfl) ?_ | refine tw_op1 _ rfl rfl (by first | exact wd_none rfl | exact wd_yes rfl rfl rfl) (fun ρ W hW h1 => by simp only [execOp, h1]; go_simp; first | done | rfl) ?_ | refine tw_op2 _ rfl rfl rfl (by first | exact wd_none rfl | exact wd_yes rfl rfl rfl) (fun ρ W hW h1 h2 => by simp only [execOp, h1, h2]; go_simp; first | done | rfl) ?_)
    dsimp only [wpT, List.reverse, List.reverseAux, FinT, PtS, List.take, List.drop]
    intro u9 W5 hW5 hu9
    obtain ⟨g, rfl, hg9, t9, hrow9⟩ := hu9.2
    simp only [Act.put, List.setIfInBounds_toArray, List.set_cons_zero, List.set_cons_succ]
    have hbs := below_setRow (B := w4.heap.size) (g := g) (ext_below hW5) hg9 #[.int .u8 sv.kind, .string sv.typ, .string sv.id, .string sv.frm, .string sv.to, .slice A5 sv.load.length c5]
    have SV := Lib.hid (show SAt (W5.setRow g #[.int .u8 sv.kind, .string sv.typ, .string sv.id, .string sv.frm, .string sv.to, .slice A5 sv.load.length c5]) g sv A5 c5 from ⟨t9, setRow_heap W5 g _ _ _ _ hrow9⟩)
    have HROW := Lib.hid hrow9
    clear hu9 hrow9 hW5 G5 GS HFD EF hk1 hk2 hk3 hk4
    obtain ⟨W6, hW6⟩ : ∃ W6, W6 = W5.setRow g #[.int .u8 sv.kind, .string sv.typ, .string sv.id, .string sv.frm, .string sv.to, .slice A5 sv.load.length c5] := ⟨_, rfl⟩
    rw [← hW6] at hbs SV
    have X6 := Lib.hid (X4.out.trans (hbs.mono X4.out.size))
    have S6 := Lib.hid (S4.out.ext hbs)
    have N6 := Lib.hid (N4.out.ext hbs)
    have R6 := Lib.hid (R4.out.ext hbs)
    have HW6 := Lib.hid hW6
    have hs4 := X4.out.size
    have h2s4 := Z4.out.size
    clear hW6 hbs
    refine wpList_store_row rfl 27 _ _ rfl g #[.int .u8 sv.kind, .string sv.typ, .string sv.id, .string sv.frm, .string sv.to, .slice A5 sv.load.length c5] rfl rfl t9 _ HROW.out (by kernel_rfl) rfl (by simp [Value.oneCell']) ?_
    rw [← HW6.out]
    clear HROW HW6
    have a0 := SV.out.c0
    have a1 := SV.out.c1
    have a2 := SV.out.c2
    have a3 := SV.out.c3
    have a4 := SV.out.c4
    have a5 := SV.out.c5
    have n1 := N6.out.c1
    have c0 := S6.out.c0
    have c1 := S6.out.c1
    have c2 := S6.out.c2
    have c4 := S6.out.c3
    have c6 := S6.out.c4
    have c7 := S6.out.c5
    have f0 := S6.out.fz 0
    have f1 := S6.out.fz 1
    have f2 := S6.out.fz 2
    have f3 := S6.out.fz 3
    have f4 := S6.out.fz 4
    have f5 := S6.out.fz 5
    unfold emS at c0 c1 c2 c4 c6 c7
    dsimp only at c0 c1 c2 c4 c6 c7
    have HCK := Lib.hid (scheck_any sv A5 c5 W6 (HSV.out ▸ ofV_sz hz htree) (R6.out.rdw (by rw [← hk5, ← hm5, List.length_map]) |> fun h => by rw [hm5, hk5] at h; exact h) (HG.out.below X6.out))
    have HGD : Box (goodI v = ((n.space.toList == clientL) && blanksI v && stnI sv)) := ⟨by rw [HSV.out]; unfold goodI; rw [hnn]⟩
    have HSE : Box (stnErr sv = if stnI sv then 0 else 8) := ⟨rfl⟩
    unfold encS at HCK
    generalize stnErr sv = ser at *
    generalize stnI sv = st at *
    generalize blanksI v = bb at *
    obtain ⟨gd, hgd⟩ : ∃ gd, goodI v = gd := ⟨_, rfl⟩
    rw [hgd] at HGD
    have HBV : Box (goodI v = gd) := ⟨hgd⟩
    clear hgd
    cases hq1 : (n.space.toList == clientL)
    · have HB : Box (gd = false) := ⟨by rw [HGD.out, hq1]; rfl⟩
      rw [HB.out] at HBV
      clear HGD
      unfold clientL at hq1
      have hq2 : ¬ (n.space.toList = [106, 97, 98, 98, 101, 114, 58, 99, 108, 105, 101, 110, 116]) := by simpa using hq1
      clear hq1
      have HP : Box (readS v = emS ∧ readE v = 220) := ⟨by unfold readS readE; rw [HE.out, HBV.out]; exact ⟨rfl, rfl⟩⟩
      go_wp2
      obtain ⟨tt, hh⟩ := S6.out.put emS none 0
      refine bodyPost_ret (v := .tuple #[encS emS none 0, .int .i64 220])
        (results_jid (fn := Tryz.f8) (p := 2) (s := 3) (ty := 27) rfl _ _ w.heap.size _ _ _ _ rfl rfl hh Tryz.underlying27 (by kernel_rfl)) rfl ?_
      rw [HP.out.1, HP.out.2]
      exact ⟨none, 0, [], rfl, Nat.le_refl _, rfl, RowT.nil _ _, put6_below X6.out (Nat.le_refl _) _ _ _ _ _ _⟩
    · cases bb
      · have HB : Box (gd = false) := ⟨by rw [HGD.out, hq1]; rfl⟩
        rw [HB.out] at HBV
        clear HGD
        unfold clientL at hq1
        have hq2 : n.space.toList = [106, 97, 98, 98, 101, 114, 58, 99, 108, 105, 101, 110, 116] := by simpa using hq1
        clear hq1
        have HP : Box (readS v = emS ∧ readE v = 220) := ⟨by unfold readS readE; rw [HE.out, HBV.out]; exact ⟨rfl, rfl⟩⟩
        go_wp2
        obtain ⟨tt, hh⟩ := S6.out.put emS none 0
        refine bodyPost_ret (v := .tuple #[encS emS none 0, .int .i64 220])
          (results_jid (fn := Tryz.f8) (p := 2) (s := 3) (ty := 27) rfl _ _ w.heap.size _ _ _ _ rfl rfl hh Tryz.underlying27 (by kernel_rfl)) rfl ?_
        rw [HP.out.1, HP.out.2]
        exact ⟨none, 0, [], rfl, Nat.le_refl _, rfl, RowT.nil _ _, put6_below X6.out (Nat.le_refl _) _ _ _ _ _ _⟩
      · cases st
        · have HB : Box (gd = false) := ⟨by rw [HGD.out, hq1]; rfl⟩
          rw [HB.out] at HBV
          have hse : ser = 8 := HSE.out
          subst hse
          clear HGD HSE
          unfold clientL at hq1
          have hq2 : n.space.toList = [106, 97, 98, 98, 101, 114, 58, 99, 108, 105, 101, 110, 116] := by simpa using hq1
          clear hq1
          go_wp2_with fail
          refine HCK.out.mono ?_
          rintro e w7 ⟨rfl, hb7⟩
          clear a0 a1 a2 a3 a4 a5 n1 c0 c1 c2 c4 c6 c7 f0 f1 f2 f3 f4 f5
          have SV7 := Lib.hid (SV.out.ext hb7)
          have X7 := Lib.hid (X6.out.trans (hb7.mono X6.out.size))
          have S7 := Lib.hid (S6.out.ext hb7)
          have R7 := Lib.hid (R6.out.ext hb7)
          clear hb7
          have a0 := SV7.out.c0
          have a1 := SV7.out.c1
          have a2 := SV7.out.c2
          have a3 := SV7.out.c3
          have a4 := SV7.out.c4
          have a5 := SV7.out.c5
          have c0 := S7.out.c0
          have c1 := S7.out.c1
          have c2 := S7.out.c2
          have c4 := S7.out.c3
          have c6 := S7.out.c4
          have c7 := S7.out.c5
          have f0 := S7.out.fz 0
          have f1 := S7.out.fz 1
          have f2 := S7.out.fz 2
          have f3 := S7.out.fz 3
          have f4 := S7.out.fz 4
          have f5 := S7.out.fz 5
          unfold emS at c0 c1 c2 c4 c6 c7
          dsimp only at c0 c1 c2 c4 c6 c7
          have HP : Box (readS v = emS ∧ readE v = 220) := ⟨by unfold readS readE; rw [HE.out, HBV.out]; exact ⟨rfl, rfl⟩⟩
          go_wp2
          obtain ⟨tt, hh⟩ := S7.out.put emS none 0
          refine bodyPost_ret (v := .tuple #[encS emS none 0, .int .i64 220])
            (results_jid (fn := Tryz.f8) (p := 2) (s := 3) (ty := 27) rfl _ _ w.heap.size _ _ _ _ rfl rfl hh Tryz.underlying27 (by kernel_rfl)) rfl ?_
          rw [HP.out.1, HP.out.2]
          exact ⟨none, 0, [], rfl, Nat.le_refl _, rfl, RowT.nil _ _, put6_below X7.out (Nat.le_refl _) _ _ _ _ _ _⟩
        · have HB : Box (gd = true) := ⟨by rw [HGD.out, hq1]; rfl⟩
          rw [HB.out] at HBV
          have hse : ser = 0 := HSE.out
          subst hse
          clear HGD HSE
          unfold clientL at hq1
          have hq2 : n.space.toList = [106, 97, 98, 98, 101, 114, 58, 99, 108, 105, 101, 110, 116] := by simpa using hq1
          clear hq1
          go_wp2_with fail
          refine HCK.out.mono ?_
          rintro e w7 ⟨rfl, hb7⟩
          clear a0 a1 a2 a3 a4 a5 n1 c0 c1 c2 c4 c6 c7 f0 f1 f2 f3 f4 f5
          have SV7 := Lib.hid (SV.out.ext hb7)
          have X7 := Lib.hid (X6.out.trans (hb7.mono X6.out.size))
          have S7 := Lib.hid (S6.out.ext hb7)
          have R7 := Lib.hid (R6.out.ext hb7)
          clear hb7
          have a0 := SV7.out.c0
          have a1 := SV7.out.c1
          have a2 := SV7.out.c2
          have a3 := SV7.out.c3
          have a4 := SV7.out.c4
          have a5 := SV7.out.c5
          have c0 := S7.out.c0
          have c1 := S7.out.c1
          have c2 := S7.out.c2
          have c4 := S7.out.c3
          have c6 := S7.out.c4
          have c7 := S7.out.c5
          have f0 := S7.out.fz 0
          have f1 := S7.out.fz 1
          have f2 := S7.out.fz 2
          have f3 := S7.out.fz 3
          have f4 := S7.out.fz 4
          have f5 := S7.out.fz 5
          unfold emS at c0 c1 c2 c4 c6 c7
          dsimp only at c0 c1 c2 c4 c6 c7
          have HP : Box (readS v = sv ∧ readE v = 0) := ⟨by unfold readS readE; rw [HE.out, HBV.out, HSV.out]; exact ⟨rfl, rfl⟩⟩
          go_wp2
          obtain ⟨tt, hh⟩ := S7.out.put sv A5 c5
          refine bodyPost_ret (v := .tuple #[encS sv A5 c5, .int .i64 0])
            (results_jid (fn := Tryz.f8) (p := 2) (s := 3) (ty := 27) rfl _ _ w.heap.size _ _ _ _ rfl rfl hh Tryz.underlying27 (by kernel_rfl)) rfl ?_
          rw [HP.out.1, HP.out.2]
          exact ⟨A5, c5, ts, rfl, by rw [← hk5]; exact hl5, hm5.trans hk5, (R7.out.put (Nat.lt_trans hgw1 hg2) _ _ _ _ _ _).mono (Nat.le_of_lt (Nat.lt_trans hgw1 hg2)), put6_below X7.out (Nat.le_refl _) _ _ _ _ _ _⟩
end Go.Proofs.YtnmnpnofdgdigaaGreatDoor
end
section
/- Layer 22 (stanza): which stanzas may be, the document's. (Printed by gen_refmay22.py) -/
namespace Go.Proofs.YtnmnpnofdgdigaaGreatDoor
open Go.RowKit
set_option linter.unusedSimpArgs false
set_option linter.unusedVariables false
set_option maxHeartbeats 16000000 in
set_option maxRecDepth 10000 in
theorem refsmay_any (s : StL) (A : Option Addr) (c : Nat) (w : World) (hz : SzS s) (hr : RdW w w.heap.size A s.load) :
    Calls Tryz.prog 40 #[encS s A c] w fun e w' => e = .returned (.bool (stnI s)) ∧ Below w.heap.size w w' := by
  obtain ⟨⟨zk0, zk1⟩, z1, z2, z3, z4, z5, z6⟩ := hz
  obtain ⟨W0, hW0⟩ : ∃ W0, W0 = w.alloc (.cells #[.int .u8 s.kind, .string s.typ, .string s.id, .string s.frm, .string s.to, .slice A s.load.length c] 27) := ⟨_, rfl⟩
  have hX0 : Below w.heap.size w W0 := by rw [hW0]; exact (Below.refl _ _).alloc (Nat.le_refl _) _
  have hS0 : SAt W0 w.heap.size s A c := by rw [hW0]; exact SAt.new _ _ _ _ _
  have HS := Lib.hid hS0
  have HX0 := Lib.hid hX0
  have HR := Lib.hid (RdW.ext hr hX0)
  have HZ := Lib.hid z6
  have H0 := Lib.hid (fun W => typed_any s.kind s.typ W zk0 zk1)
  have H1 := Lib.hid (fun W => refis5_any s.id W z2)
  have H2 := Lib.hid (fun W => refaddress_any s.frm W z3)
  have H3 := Lib.hid (fun W => refaddress_any s.to W z4)
  have HE : Box (stnI s = (typedI s.kind s.typ && idI s.kind s.id && addressI s.frm && addressI s.to && !decide (16 < s.load.length) && s.load.all spaceI)) := ⟨rfl⟩
  have HID : Box (idI s.kind s.id = (decide (s.id.size ≤ 64) && decide (textErr s.id = 0) && (!decide (s.kind = 3) || !isEmp s.id))) := ⟨rfl⟩
  have HTE : Hid (s.id.size ≤ 64 → decide (textErr s.id = 0) = textOK s.id) := Lib.hid (fun h => by
    unfold textErr
    rw [if_neg (by omega)]
    cases textOK s.id <;> rfl)
  have ei := emp_iff s.id
  have HWE := Lib.hid hW0
  clear hW0 hX0 hS0 hr z1 z2 z3 z4 z6
  generalize stnI s = r at *
  generalize idI s.kind s.id = bi at *
  generalize typedI s.kind s.typ = bt at *
  generalize addressI s.frm = a1 at *
  generalize addressI s.to = a2 at *
  generalize textOK s.id = tk at *
  generalize isEmp s.id = ie at *
  unfold encS
  have hcase : bt = false ∨ (bt = true ∧ (s.kind == 3) = true ∧ ie = true ∧ bi = false) ∨ (bt = true ∧ ((s.kind == 3) = false ∨ ((s.kind == 3) = true ∧ ie = false)) ∧ decide ((64 : Int) < (s.id.size : Int)) = true ∧ bi = false) ∨
      (bt = true ∧ ((s.kind == 3) = false ∨ ((s.kind == 3) = true ∧ ie = false)) ∧ decide ((64 : Int) < (s.id.size : Int)) = false ∧ ((tk = false ∧ bi = false) ∨ (tk = true ∧ bi = true))) := by
    cases bt with
    | false => left; rfl
    | true =>
      right
      by_cases hk : s.kind = 3
      · have hkq : (s.kind == 3) = true := by simpa using hk
        cases ie with
        | true => left; exact ⟨rfl, hkq, rfl, by rw [HID.out, decide_eq_true hk]; simp⟩
        | false =>
          right
          by_cases h64 : s.id.size ≤ 64
          · right
            refine ⟨rfl, .inr ⟨hkq, rfl⟩, decide_eq_false (by omega), ?_⟩
            rw [HID.out, decide_eq_true h64, decide_eq_true hk, HTE.out h64]
            cases tk <;> simp
          · left
            exact ⟨rfl, .inr ⟨hkq, rfl⟩, decide_eq_true (by omega), by rw [HID.out, decide_eq_false h64]; rfl⟩
      · have hkq : (s.kind == 3) = false := by simpa using hk
        right
        by_cases h64 : s.id.size ≤ 64
        · right
          refine ⟨rfl, .inl hkq, decide_eq_false (by omega), ?_⟩
          rw [HID.out, decide_eq_true h64, decide_eq_false hk, HTE.out h64]
          cases tk <;> simp
        · left
          exact ⟨rfl, .inl hkq, decide_eq_true (by omega), by rw [HID.out, decide_eq_false h64]; rfl⟩
  clear HID HTE
  rcases hcase with rfl | ⟨rfl, hkq, rfl, rfl⟩ | ⟨rfl, hkq, h64, rfl⟩ | ⟨rfl, hkq, h64, htk⟩
  · have HIT := Box.mk (show true = true from rfl)
    go_enter Tryz.func40, Tryz.ntmps40
    go_wp2_with fail
    rw [← HWE.out]
    refine (H0.out _).mono ?_
    rintro e w1 ⟨rfl, hb1⟩
    have XC := Lib.hid hb1
    have c0 := (HS.out.ext XC.out).c0
    have c2 := (HS.out.ext XC.out).c2
    have c3 := (HS.out.ext XC.out).c3
    have c4 := (HS.out.ext XC.out).c4
    clear hb1

    go_wp2
    go_ret
    exact ⟨ret_bool (by rw [HE.out]; simp_all), HX0.out.trans (XC.out.mono HX0.out.size)⟩
  · have hemp : s.id.toList = [] := List.isEmpty_iff.1 ei
    go_enter Tryz.func40, Tryz.ntmps40
    go_wp2_with fail
    rw [← HWE.out]
    refine (H0.out _).mono ?_
    rintro e w1 ⟨rfl, hb1⟩
    have XC := Lib.hid hb1
    have c0 := (HS.out.ext XC.out).c0
    have c2 := (HS.out.ext XC.out).c2
    have c3 := (HS.out.ext XC.out).c3
    have c4 := (HS.out.ext XC.out).c4
    clear hb1

    go_wp2
    go_ret
    exact ⟨ret_bool (by rw [HE.out]; simp_all), HX0.out.trans (XC.out.mono HX0.out.size)⟩
  · rcases hkq with hkq | ⟨hkq, rfl⟩
    all_goals
      go_enter Tryz.func40, Tryz.ntmps40
      go_wp2_with fail
      rw [← HWE.out]
      refine (H0.out _).mono ?_
      rintro e w1 ⟨rfl, hb1⟩
      have XC := Lib.hid hb1
      have c0 := (HS.out.ext XC.out).c0
      have c2 := (HS.out.ext XC.out).c2
      have c3 := (HS.out.ext XC.out).c3
      have c4 := (HS.out.ext XC.out).c4
      clear hb1

      go_wp2
      go_ret
      exact ⟨ret_bool (by rw [HE.out]; simp_all), HX0.out.trans (XC.out.mono HX0.out.size)⟩
  · rcases htk with ⟨rfl, rfl⟩ | ⟨rfl, rfl⟩
    · rcases hkq with hkq | ⟨hkq, rfl⟩
      all_goals
        go_enter Tryz.func40, Tryz.ntmps40
        go_wp2_with fail
        rw [← HWE.out]
        refine (H0.out _).mono ?_
        rintro e w1 ⟨rfl, hb1⟩
        have XC := Lib.hid hb1
        have c0 := (HS.out.ext XC.out).c0
        have c2 := (HS.out.ext XC.out).c2
        have c3 := (HS.out.ext XC.out).c3
        have c4 := (HS.out.ext XC.out).c4
        clear hb1

        go_wp2_with fail
        refine (H1.out _).mono ?_
        rintro e w2 ⟨rfl, hb1⟩
        have XC2 := Lib.hid (XC.out.trans (hb1.mono XC.out.size))
        clear hb1
        clear c0 c2 c3 c4
        have c0 := (HS.out.ext XC2.out).c0
        have c2 := (HS.out.ext XC2.out).c2
        have c3 := (HS.out.ext XC2.out).c3
        have c4 := (HS.out.ext XC2.out).c4

        go_wp2
        go_ret
        exact ⟨ret_bool (by rw [HE.out]; simp_all), HX0.out.trans (XC2.out.mono HX0.out.size)⟩
    · cases a1
      · rcases hkq with hkq | ⟨hkq, rfl⟩
        all_goals
          go_enter Tryz.func40, Tryz.ntmps40
          go_wp2_with fail
          rw [← HWE.out]
          refine (H0.out _).mono ?_
          rintro e w1 ⟨rfl, hb1⟩
          have XC := Lib.hid hb1
          have c0 := (HS.out.ext XC.out).c0
          have c2 := (HS.out.ext XC.out).c2
          have c3 := (HS.out.ext XC.out).c3
          have c4 := (HS.out.ext XC.out).c4
          clear hb1

          go_wp2_with fail
          refine (H1.out _).mono ?_
          rintro e w2 ⟨rfl, hb1⟩
          have XC2 := Lib.hid (XC.out.trans (hb1.mono XC.out.size))
          clear hb1
          clear c0 c2 c3 c4
          have c0 := (HS.out.ext XC2.out).c0
          have c2 := (HS.out.ext XC2.out).c2
          have c3 := (HS.out.ext XC2.out).c3
          have c4 := (HS.out.ext XC2.out).c4

          go_wp2_with fail
          refine (H2.out _).mono ?_
          rintro e w3 ⟨rfl, hb1⟩
          have XC3 := Lib.hid (XC2.out.trans (hb1.mono XC2.out.size))
          clear hb1
          clear c0 c2 c3 c4
          have c0 := (HS.out.ext XC3.out).c0
          have c2 := (HS.out.ext XC3.out).c2
          have c3 := (HS.out.ext XC3.out).c3
          have c4 := (HS.out.ext XC3.out).c4

          go_wp2
          go_ret
          exact ⟨ret_bool (by rw [HE.out]; simp_all), HX0.out.trans (XC3.out.mono HX0.out.size)⟩
      · cases a2
        · rcases hkq with hkq | ⟨hkq, rfl⟩
          all_goals
            go_enter Tryz.func40, Tryz.ntmps40
            go_wp2_with fail
            rw [← HWE.out]
            refine (H0.out _).mono ?_
            rintro e w1 ⟨rfl, hb1⟩
            have XC := Lib.hid hb1
            have c0 := (HS.out.ext XC.out).c0
            have c2 := (HS.out.ext XC.out).c2
            have c3 := (HS.out.ext XC.out).c3
            have c4 := (HS.out.ext XC.out).c4
            clear hb1

            go_wp2_with fail
            refine (H1.out _).mono ?_
            rintro e w2 ⟨rfl, hb1⟩
            have XC2 := Lib.hid (XC.out.trans (hb1.mono XC.out.size))
            clear hb1
            clear c0 c2 c3 c4
            have c0 := (HS.out.ext XC2.out).c0
            have c2 := (HS.out.ext XC2.out).c2
            have c3 := (HS.out.ext XC2.out).c3
            have c4 := (HS.out.ext XC2.out).c4

            go_wp2_with fail
            refine (H2.out _).mono ?_
            rintro e w3 ⟨rfl, hb1⟩
            have XC3 := Lib.hid (XC2.out.trans (hb1.mono XC2.out.size))
            clear hb1
            clear c0 c2 c3 c4
            have c0 := (HS.out.ext XC3.out).c0
            have c2 := (HS.out.ext XC3.out).c2
            have c3 := (HS.out.ext XC3.out).c3
            have c4 := (HS.out.ext XC3.out).c4

            go_wp2_with fail
            refine (H3.out _).mono ?_
            rintro e w4 ⟨rfl, hb1⟩
            have XC4 := Lib.hid (XC3.out.trans (hb1.mono XC3.out.size))
            clear hb1
            clear c0 c2 c3 c4
            have c0 := (HS.out.ext XC4.out).c0
            have c2 := (HS.out.ext XC4.out).c2
            have c3 := (HS.out.ext XC4.out).c3
            have c4 := (HS.out.ext XC4.out).c4

            go_wp2
            go_ret
            exact ⟨ret_bool (by rw [HE.out]; simp_all), HX0.out.trans (XC4.out.mono HX0.out.size)⟩
        · have HIT : Box (true = true) := ⟨rfl⟩
          rcases hkq with hkq | ⟨hkq, rfl⟩
          all_goals
            go_enter Tryz.func40, Tryz.ntmps40
            go_wp2_with fail
            rw [← HWE.out]
            refine (H0.out _).mono ?_
            rintro e w1 ⟨rfl, hb1⟩
            have XC := Lib.hid hb1
            have c0 := (HS.out.ext XC.out).c0
            have c2 := (HS.out.ext XC.out).c2
            have c3 := (HS.out.ext XC.out).c3
            have c4 := (HS.out.ext XC.out).c4
            clear hb1

            go_wp2_with fail
            refine (H1.out _).mono ?_
            rintro e w2 ⟨rfl, hb1⟩
            have XC2 := Lib.hid (XC.out.trans (hb1.mono XC.out.size))
            clear hb1
            clear c0 c2 c3 c4
            have c0 := (HS.out.ext XC2.out).c0
            have c2 := (HS.out.ext XC2.out).c2
            have c3 := (HS.out.ext XC2.out).c3
            have c4 := (HS.out.ext XC2.out).c4

            go_wp2_with fail
            refine (H2.out _).mono ?_
            rintro e w3 ⟨rfl, hb1⟩
            have XC3 := Lib.hid (XC2.out.trans (hb1.mono XC2.out.size))
            clear hb1
            clear c0 c2 c3 c4
            have c0 := (HS.out.ext XC3.out).c0
            have c2 := (HS.out.ext XC3.out).c2
            have c3 := (HS.out.ext XC3.out).c3
            have c4 := (HS.out.ext XC3.out).c4

            go_wp2_with fail
            refine (H3.out _).mono ?_
            rintro e w4 ⟨rfl, hb1⟩
            have XC4 := Lib.hid (XC3.out.trans (hb1.mono XC3.out.size))
            clear hb1
            clear c0 c2 c3 c4
            have c0 := (HS.out.ext XC4.out).c0
            have c2 := (HS.out.ext XC4.out).c2
            have c3 := (HS.out.ext XC4.out).c3
            have c4 := (HS.out.ext XC4.out).c4

            go_wp2
            go_loopw [3] (fun s3 wr => ∃ k : Nat, k ≤ s.load.length ∧ s3 = .int .i64 k ∧ Hid (Below W0.heap.size W0 wr) ∧ Hid ((s.load.take k).all spaceI = true)) (fun s3 _ => s.load.length - (intOf s3).toNat)
            case atStart => exact ⟨0, Nat.zero_le _, rfl, XC4, rfl⟩
            case round =>
              obtain ⟨k, hk', rfl, HB, HN⟩ := hrel
              clear c0 c2 c3 c4
              have c5 := (HS.out.ext HB.out).c5
              by_cases hlt : k < s.load.length
              · obtain ⟨v, hv⟩ : ∃ v, s.load[k]? = some v := ⟨_, List.getElem?_eq_getElem hlt⟩
                have HV := Lib.hid hv
                obtain ⟨b, off, rfl, hb, hcc⟩ := (RdW.ext HR.out HB.out) (by omega)
                obtain ⟨A', c', d0, hl2, hA2⟩ := hcc k v hv
                have HM := Lib.hid (refsp_any v A' c' wr hl2 (HZ.out v (List.mem_of_getElem? hv)) hA2)
                clear hv hcc hA2
                cases hsp : spaceI v with
                | true =>
                  have HN2 : Hid ((s.load.take (k + 1)).all spaceI = true) := by show _ = _; rw [List.take_add_one, HV.out, List.all_append, HN.out]; simp [hsp]
                  rw [hsp] at HM
                  clear hsp
                  go_wp2_with fail
                  refine HM.out.mono ?_
                  rintro e w6 ⟨rfl, hb6⟩
                  have X6 := Lib.hid (HB.out.trans (hb6.mono HB.out.size))
                  clear hb6
                  go_wp2
                  go_roundw
                  case rel => exact ⟨k + 1, by omega, by go_num, X6, HN2⟩
                  case measure => simp [intOf]; omega
                | false =>
                  have HLF : Box (s.load.all spaceI = false) := ⟨by rw [List.all_eq_false]; exact ⟨v, List.mem_of_getElem? HV.out, by rw [hsp]; simp⟩⟩
                  rw [hsp] at HM
                  clear hsp
                  go_wp2_with fail
                  refine HM.out.mono ?_
                  rintro e w6 ⟨rfl, hb6⟩
                  have X6 := Lib.hid (HB.out.trans (hb6.mono HB.out.size))
                  clear hb6
                  go_wp2
                  go_ret
                  exact ⟨ret_bool (by rw [HE.out, HLF.out, Bool.and_false]), HX0.out.trans (X6.out.mono HX0.out.size)⟩
              · obtain rfl : k = s.load.length := by omega
                have HLT : Box (s.load.all spaceI = true) := ⟨by have := HN.out; rwa [List.take_length] at this⟩
                have HEN : Box (r = decide ((s.load.length : Int) ≤ 16)) := ⟨by
                  rw [HE.out, HLT.out]
                  simp only [Bool.true_and, Bool.and_true]
                  rw [← decide_not]
                  exact decide_eq_decide.2 (by omega)⟩
                clear HE
                go_wp2
                go_ret
                exact ⟨ret_bool HEN.out.symm, HX0.out.trans (HB.out.mono HX0.out.size)⟩
end Go.Proofs.YtnmnpnofdgdigaaGreatDoor
end
