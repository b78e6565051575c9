import Derived.Test.YtnmnpnofdgdigaaGreatDoorZ16
import Derived.Test.YtnmnpnofdgdigaaGreatDoorZ23
import Derived.Test.YtnmnpnofdgdigaaGreatDoorZ10
import Derived.Test.YtnmnpnofdgdigaaGreatDoorZ11
import Derived.Test.YtnmnpnofdgdigaaGreatDoorZ25
import Derived.Test.YtnmnpnofdgdigaaGreatDoorZ13
set_option linter.all false
section
/- Layer 22 (stanza): what is right within a tree's first element, the program's. -/
namespace Go.Proofs.YtnmnpnofdgdigaaGreatDoor
open Go.RowKit
set_option linter.unusedSimpArgs false
set_option linter.unusedVariables false
/-- a tree in memory of the call's own, beside the row of a value -/
def NewVX (base : Nat) (u : Value) (w : World) (A : Option Addr) (c : Nat) (v : List NodeL) : Prop :=
  ∃ l : List NodeH, l.map (·.1) = v ∧ w.ownsRow base 36 6 (.slice A v.length c) v.length (cellsN l) ∧ u.ownBlock ≠ some (blk A) ∧ ∀ (i : Nat) (x : NodeH), l[i]? = some x → x.1.attrs.length ≤ x.2.2 ∧ NewO base u w x.2.1 x.1.attrs
section
variable {base : Nat} {u u' : Value} {w w' : World} {A : Option Addr} {c : Nat} {v : List NodeL}
theorem NewVX.ext (h : NewVX base u w A c v) (hb : Below w.heap.size w w') : NewVX base u w' A c v := by
  obtain ⟨l, h1, h2, h3, h4⟩ := h
  exact ⟨l, h1, own_keep h2 hb, h3, fun i x hi => ⟨(h4 i x hi).1, (h4 i x hi).2.ext hb⟩⟩
theorem NewVX.app (h : NewVX base u w A c v) (h0 : 0 < v.length) (hg : w.grownBy w' u.ownBlock) (hr : u'.ownBlock = u.ownBlock ∨ u'.ownBlock = some w.heap.size) : NewVX base u' w' A c v := by
  obtain ⟨l, h1, h2, h3, h4⟩ := h
  obtain ⟨g, rfl, h5, h6⟩ := own_some h2 h0
  refine ⟨l, h1, h2.kept hg (.inr (fun e => h3 e.symm)), ?_, fun i x hi => ⟨(h4 i x hi).1, (h4 i x hi).2.app hg hr⟩⟩
  rcases hr with e | e <;> rw [e]
  · exact h3
  · intro e2
    simp only [Option.some.injEq, blk] at e2
    omega
theorem NewVX.of {base' : Nat} (h : NewV base' w A c v) (h0 : 0 < v.length) (hb : base ≤ base') (hu : ∀ g, u.ownBlock = some g → g < base') : NewVX base u w A c v := by
  obtain ⟨l, h1, h2, h3⟩ := h
  obtain ⟨g, rfl, h5, h6⟩ := own_some h2 h0
  refine ⟨l, h1, own_mono h2 hb, fun e => by have := hu _ e; simp only [blk] at this; omega, fun i x hi => ⟨(h3 i x hi).1, fun h00 => ?_⟩⟩
  obtain ⟨b, off, e1, e2, e3, e4, e5⟩ := (h3 i x hi).2 h00
  exact ⟨b, off, e1, by omega, fun e => by have := hu _ e; omega, e4, e5⟩
theorem NewO.rda {B : Option Addr} {l : List AttrL} (h : NewO base u w B l) : RdA w w.heap.size B l := fun h0 => by
  obtain ⟨b, off, h1, _, _, h2, h3⟩ := h h0
  exact ⟨b, off, h1, h2, h3⟩
theorem NewVX.rdv (h : NewVX base u w A c v) : RdV w w.heap.size A v := by
  obtain ⟨l, rfl, h2, _, h3⟩ := h
  rw [List.length_map] at h2
  exact rd_rdv (Rd.of_own h2) (fun i x hi => ⟨(h3 i x hi).1, (h3 i x hi).2.rda⟩)
end
/-- trees in a row of the call's own -/
def RowT (base : Nat) (u : Value) (w : World) (ts : List TreeH) : Prop :=
  w.ownsRow base 22 1 u ts.length (cellsT ts) ∧ ∀ x ∈ ts, 0 < x.1.length ∧ x.1.length ≤ x.2.2 ∧ NewVX base u w x.2.1 x.2.2 x.1
theorem RowT.nil (base : Nat) (w : World) : RowT base (.slice none 0 0) w [] := ⟨World.ownsRow_nil _ _ _ _, fun x hx => by cases hx⟩
theorem RowT.ext {base : Nat} {u : Value} {w w' : World} {ts : List TreeH} (h : RowT base u w ts) (hb : Below w.heap.size w w') : RowT base u w' ts :=
  ⟨own_keep h.1 hb, fun x hx => ⟨(h.2 x hx).1, (h.2 x hx).2.1, (h.2 x hx).2.2.ext hb⟩⟩
theorem RowT.app {base : Nat} {u u' : Value} {w w' : World} {ts : List TreeH} {t : TreeH} (h : RowT base u w ts) (ht : 0 < t.1.length ∧ t.1.length ≤ t.2.2 ∧ NewVX base u w t.2.1 t.2.2 t.1)
    (hown : w'.ownsRow base 22 1 u' (ts.length + 1) (cellsT (ts ++ [t]))) (hg : w.grownBy w' u.ownBlock) (hr : u'.ownBlock = u.ownBlock ∨ u'.ownBlock = some w.heap.size) : RowT base u' w' (ts ++ [t]) := by
  refine ⟨by rw [List.length_append]; exact hown, fun x hx => ?_⟩
  rw [List.mem_append, List.mem_singleton] at hx
  rcases hx with hx | rfl
  · exact ⟨(h.2 x hx).1, (h.2 x hx).2.1, (h.2 x hx).2.2.app (h.2 x hx).1 hg hr⟩
  · exact ⟨ht.1, ht.2.1, ht.2.2.app ht.1 hg hr⟩
theorem RowT.rdw {base n c : Nat} {A : Option Addr} {w : World} {ts : List TreeH} (h : RowT base (.slice A n c) w ts) (hn : n = ts.length) : RdW w w.heap.size A (ts.map (·.1)) := fun h0 => by
  subst hn
  rw [List.length_map] at h0
  obtain ⟨g, rfl, h1, h2⟩ := own_some h.1 h0
  refine ⟨g, 0, rfl, h2, fun i v hv => ?_⟩
  rw [List.getElem?_map, Option.map_eq_some_iff] at hv
  obtain ⟨x, hx, rfl⟩ := hv
  obtain ⟨q1, q2, q3⟩ := h.2 x (List.mem_of_getElem? hx)
  refine ⟨x.2.1, x.2.2, ?_, q2, q3.rdv⟩
  rw [Nat.zero_add, h.1.cellAt i (by have := (List.getElem?_eq_some_iff.1 hx).1; omega)]
  simp [cellsT, hx, cT]
def ElemsPost (v : List NodeL) (w : World) (e : Ending) (w' : World) : Prop :=
  ∃ A c ts, e = .returned (.tuple #[.slice A (elemsI v).length c, .bool (blanksI v)]) ∧ (elemsI v).length ≤ c ∧ ts.map (·.1) = elemsI v ∧ RowT w.heap.size (.slice A (elemsI v).length c) w' ts ∧ Below w.heap.size w w'
theorem kid_kind {v : List NodeL} (ht : treeI v = true) {k : Nat} (hk : k < v.length) : (nodeAt v k).kind = 1 ∨ (nodeAt v k).kind = 2 := by
  obtain ⟨x, hx, _⟩ := tree_ends ht hk
  obtain ⟨n, hn, h1, _, _⟩ := endN_inv hx
  have e : nodeAt v k = n := by unfold nodeAt; rw [List.getD_eq_getElem?_getD, hn]; rfl
  rw [e]
  exact node_kind h1
theorem node_get {v : List NodeL} {k : Nat} (hk : k < v.length) : v[k]? = some (nodeAt v k) := by
  unfold nodeAt
  rw [List.getD_eq_getElem?_getD, List.getElem?_eq_getElem hk]
  rfl
theorem take_kids {l : List Nat} {j k : Nat} (h : l[j]? = some k) : l.take (j + 1) = l.take j ++ [k] := by rw [List.take_add_one, h]; rfl
set_option maxHeartbeats 16000000 in
set_option maxRecDepth 10000 in
theorem within_any (v : List NodeL) (A : Option Addr) (c : Nat) (w : World) (hc : v.length ≤ c) (hz : SzV 1000000000 v) (hr : RdV w w.heap.size A v) (ht : treeI v = true) :
    Calls Tryz.prog 31 #[.slice A v.length c] w (ElemsPost v w) := by
  have hl0 := (tree_parts ht).1
  have hl5 := (tree_parts ht).2.1
  have H := Lib.hid (kids_any v A c 0 w hc hz hr ht hl0)
  unfold KidsPost at H
  obtain ⟨e0, he0, _⟩ := tree_ends ht hl0
  have HLT := Lib.hid (fun k (hk : k ∈ kidsI v 0) => (kids_lt he0 hk).1)
  have HKK := Lib.hid (fun k (hk : k < v.length) => kid_kind ht hk)
  have HSUB := Lib.hid (fun k (hk : k < v.length) (h1 : (nodeAt v k).kind = 1) W (hW : RdV W W.heap.size A v) => sub_any v A c k W hc hz hW ht (nodeAt v k) (node_get hk) h1)
  unfold SubPost at HSUB
  have HPL := Lib.hid (fun k (hk : k < v.length) => by
    obtain ⟨x, hx, h1, h2⟩ := tree_ends ht hk
    have := part_len hx
    exact (show 0 < (partI v k).length by omega))
  have HZN := Lib.hid (fun k (hk : k < v.length) => (szv_get hz (node_get hk)).2.2.2.2.1)
  have HR := Lib.hid hr
  have HEL : Hid (elemsI v = elemsK v (kidsI v 0)) := rfl
  have HBL : Hid (blanksI v = blanksK v (kidsI v 0)) := rfl
  have HKN : Hid ((kidsI v 0).length ≤ 512) := Lib.hid (by
    have h1 := (chain_start he0).lt (by omega)
    unfold kidsI
    rw [kidL_len]
    have := (endN_le v 12 0 e0 he0).2
    omega)
  obtain ⟨b, off, rfl, hb, hcc⟩ := hr hl0
  have HC0 : Hid (∀ k, k < v.length → ∀ W, Below w.heap.size w W → W.cell? ⟨b, off + k * 6, none⟩ = some (.int .u8 (nodeAt v k).kind) ∧ W.cell? ⟨b, off + k * 6 + 4, none⟩ = some (.string (nodeAt v k).text)) := Lib.hid (fun k hk W hW => by
    have h := hcc k _ (node_get hk)
    exact ⟨(hW.cell (p := ⟨b, off + k * 6, none⟩) hb).trans h.1, (hW.cell (p := ⟨b, off + k * 6 + 4, none⟩) hb).trans h.2.2.2.2.1⟩)
  clear hz hc ht he0 hr hcc
  unfold ElemsPost
  generalize kidsI v 0 = ks at *
  have hkn := HKN.out
  generalize elemsI v = EL at *
  generalize blanksI v = BL at *
  go_enter Tryz.func31, Tryz.ntmps31
  go_wp2_with fail
  refine H.out.mono ?_
  rintro e w1 ⟨uk, rfl, hown1, hb1⟩
  obtain ⟨Ak, ck, rfl⟩ := own_form hown1
  have HO1 := Lib.hid hown1
  have X1 := Lib.hid hb1
  clear hown1 hb1
  go_wp2
  go_loopw [2, 3, 7, 8, 9, 17] (fun s2 s3 _ _ _ s17 wr => ∃ (j : Nat) (ts : List TreeH), j ≤ ks.length ∧ s17 = .int .i64 j ∧ s3 = .bool (blanksK v (ks.take j)) ∧ Hid (Below w1.heap.size w1 wr) ∧ Hid (ts.map (·.1) = elemsK v (ks.take j)) ∧ Hid (RowT w1.heap.size s2 wr ts) ∧ ts.length ≤ j) (fun _ _ _ _ _ s17 _ => ks.length - (intOf s17).toNat)
  case atStart => exact ⟨0, [], Nat.zero_le _, rfl, rfl, Lib.hid (Below.refl _ _), rfl, RowT.nil _ _, Nat.le_refl _⟩
  case round =>
    obtain ⟨j, ts, hj, rfl, rfl, HB, HM, HT, htj⟩ := hrel
    obtain ⟨A2, c2, rfl⟩ := own_form HT.out.1
    have HBW : Hid (Below w.heap.size w wr) := X1.out.trans (HB.out.mono X1.out.size)
    by_cases hlt : j < ks.length
    · obtain ⟨k, hk⟩ : ∃ k, ks[j]? = some k := ⟨_, List.getElem?_eq_getElem hlt⟩
      have hkv := HLT.out k (List.mem_of_getElem? hk)
      obtain ⟨gk, rfl, hgk1, hgk2⟩ := own_some HO1.out (by omega)
      have d0 := (HB.out.cell (p := ⟨gk, j, none⟩) hgk2).trans ((HO1.out.cellAt j (by omega)).trans (by simp [ints, hk]; rfl))
      obtain ⟨d1, d2⟩ := HC0.out k hkv wr HBW.out
      have HTK := Lib.hid (take_kids hk)
      have hkk := HKK.out k hkv
      have HBS := Lib.hid (blanksK_succ v (ks.take j) k)
      have HES := Lib.hid (elemsK_succ v (ks.take j) k)
      rw [← HTK.out] at HBS HES
      have HS := Lib.hid (HSUB.out k hkv)
      have hpl := HPL.out k hkv
      have htz := HZN.out k hkv
      clear hk HTK
      generalize nodeAt v k = n at *
      rcases hkk with hk1 | hk2
      · rw [hk1] at d1
        have HS1 := Lib.hid (HS.out hk1 wr ((HR.out.below HBW.out (Nat.le_refl _)).more HBW.out.size))
        rw [if_pos hk1] at HES
        rw [decide_eq_true hk1, Bool.true_or, Bool.and_true] at HBS
        clear HS
        generalize partI v k = P at *
        generalize blanksK v (ks.take j) = bb at *
        go_wp2_with fail
        refine HS1.out.mono ?_
        rintro e2 w2 ⟨A3, c3, rfl, hl3, hnew, hb2⟩
        have X2 := Lib.hid (HB.out.trans (hb2.mono HB.out.size))
        have HT2 := Lib.hid (HT.out.ext hb2)
        have hsz2 := hb2.size
        have hszr := HB.out.size
        have HNX : Hid (NewVX w1.heap.size (.slice A2 ts.length c2) (w2.alloc (.cells #[.slice A3 P.length c3] 22)) A3 c3 P) := Lib.hid ((NewVX.of hnew hpl hszr (fun g hg => (HT.out.1.lt g hg).2)).ext ((Below.refl _ _).alloc (Nat.le_refl _) _))
        have HTA := Lib.hid (HT2.out.ext ((Below.refl _ _).alloc (Nat.le_refl _) (.cells #[.slice A3 P.length c3] 22)))
        have HRN : Hid (Rd (w2.alloc (.cells #[.slice A3 P.length c3] 22)) (w2.heap.size + 1) 1 (some ⟨w2.heap.size, 0, none⟩) 1 (cellsT [(P, A3, c3)])) := Rd.new w2 22 #[.slice A3 P.length c3] (s := 1) (n := 1) rfl
        have HL3 := Lib.hid hl3
        clear hb2 hnew hl3 d0 d1 d2
        go_wp2_with (at_builtin; refine app_trees rfl _ _ rfl w1.heap.size _ ts.length ts rfl HTA.out.1 _ _ _ _ [(P, A3, c3)] rfl HRN.out (by omega) (by simp; omega) ?_)
        intro v4 w4 hown4 hg4 hbk
        have HT4 := Lib.hid (RowT.app HTA.out ⟨hpl, HL3.out, HNX.out⟩ hown4 hg4 (by simpa using hbk))
        have HX4 : Hid (Below w1.heap.size w1 w4) := (X2.out.alloc X2.out.size _).grown hg4 (by have := X2.out.size; simp; omega) (fun q hq => (HT.out.1.lt q hq).1)
        clear hown4 hg4 hbk
        go_wp2
        go_roundw
        case rel => exact ⟨j + 1, ts ++ [(P, A3, c3)], by omega, by go_num, by rw [HBS.out], HX4, Lib.hid (by rw [HES.out, List.map_append, HM.out]; rfl), HT4, by rw [List.length_append]; simp; omega⟩
        case measure => simp [intOf]; omega
      · rw [hk2] at d1
        rw [if_neg (by omega)] at HES
        have hk21 : decide (n.kind = 1) = false := decide_eq_false (by omega)
        rw [hk21, Bool.false_or] at HBS
        have HTR := Lib.hid (fun W => trim_any n.text (⟨#[32, 9, 10, 13]⟩ : ByteArray) W htz (by decide) (by decide))
        have hbi : blankI n.text = setAll blankL n.text := rfl
        clear HS hk21
        generalize blanksK v (ks.take j) = bb at *
        cases bb
        · go_wp2
          go_roundw
          case rel => exact ⟨j + 1, ts, by omega, by go_num, by rw [HBS.out]; rfl, HB, Lib.hid (by rw [HES.out]; exact HM.out), HT, by omega⟩
          case measure => simp [intOf]; omega
        · cases hq : setAll blankL n.text
          · have hne : Lib.trimS n.text.data.toList ((⟨#[32, 9, 10, 13]⟩ : ByteArray)).data.toList ≠ [] := fun h => by
              rw [trimS_nil] at h
              unfold setAll at hq
              rw [show blankL = ((⟨#[32, 9, 10, 13]⟩ : ByteArray)).data.toList from rfl, h] at hq
              cases hq
            obtain ⟨t, ht⟩ : ∃ t : ByteArray, t = ⟨(Lib.trimS n.text.data.toList ((⟨#[32, 9, 10, 13]⟩ : ByteArray)).data.toList).toArray⟩ := ⟨_, rfl⟩
            have he : t.toList.isEmpty = false := by
              rw [Lib.toList_data, ht]
              cases h : Lib.trimS n.text.data.toList ((⟨#[32, 9, 10, 13]⟩ : ByteArray)).data.toList with
              | nil => exact absurd h hne
              | cons a l => rfl
            rw [← ht] at HTR
            rw [hbi, hq] at HBS
            clear hq hne ht hbi
            go_wp2_with fail
            refine (HTR.out _).mono ?_
            rintro e2 w2 ⟨rfl, hb2⟩
            have X2 := Lib.hid (HB.out.trans (hb2.mono HB.out.size))
            have HT2 := Lib.hid (HT.out.ext hb2)
            clear hb2
            go_wp2
            go_roundw
            case rel => exact ⟨j + 1, ts, by omega, by go_num, by rw [HBS.out]; rfl, X2, Lib.hid (by rw [HES.out]; exact HM.out), HT2, by omega⟩
            case measure => simp [intOf]; omega
          · have hnil : Lib.trimS n.text.data.toList ((⟨#[32, 9, 10, 13]⟩ : ByteArray)).data.toList = [] := (trimS_nil _ _).2 hq
            rw [hnil] at HTR
            rw [hbi, hq] at HBS
            clear hq hnil hbi
            go_wp2_with fail
            refine (HTR.out _).mono ?_
            rintro e2 w2 ⟨rfl, hb2⟩
            have X2 := Lib.hid (HB.out.trans (hb2.mono HB.out.size))
            have HT2 := Lib.hid (HT.out.ext hb2)
            clear hb2
            go_wp2
            go_roundw
            case rel => exact ⟨j + 1, ts, by omega, by go_num, by rw [HBS.out]; rfl, X2, Lib.hid (by rw [HES.out]; exact HM.out), HT2, by omega⟩
            case measure => simp [intOf]; omega
    · obtain rfl : j = ks.length := by omega
      rw [List.take_length] at HM ⊢
      have HLE := Lib.hid (own_le HT.out.1)
      have HEM : Hid (ts.map (·.1) = EL) := Lib.hid (by rw [HM.out, HEL.out])
      have HLN : Hid (ts.length = EL.length) := Lib.hid (by rw [← HEM.out, List.length_map])
      go_wp2
      go_ret2
      refine ⟨A2, c2, ts, by rw [HBL.out, ← HLN.out]; rfl, by rw [← HLN.out]; exact HLE.out, HEM.out, ?_, HBW.out⟩
      rw [← HLN.out]
      refine ⟨own_mono HT.out.1 X1.out.size, fun x hx => ?_⟩
      obtain ⟨q1, q2, l, q3, q4, q5, q6⟩ := HT.out.2 x hx
      exact ⟨q1, q2, l, q3, own_mono q4 X1.out.size, q5, fun i y hi => ⟨(q6 i y hi).1, fun h00 => by
        obtain ⟨b', off', e1, e2, e3⟩ := (q6 i y hi).2 h00
        exact ⟨b', off', e1, Nat.le_trans X1.out.size e2, e3⟩⟩⟩
end Go.Proofs.YtnmnpnofdgdigaaGreatDoor
end
section
/- Plain law of stanzas (layer 22): the stanza of an element. No program here. -/
namespace Go.Proofs.YtnmnpnofdgdigaaGreatDoor
def clientL : List UInt8 := [106, 97, 98, 98, 101, 114, 58, 99, 108, 105, 101, 110, 116]
def kindI (s : ByteArray) : Int := if 0 > placeI (fstP (eqT s) kindNames) then 0 else placeI (fstP (eqT s) kindNames)
def ofV (v : List NodeL) : StL := ⟨kindI (nodeAt v 0).name, findI (nodeAt v 0) (⟨#[116, 121, 112, 101]⟩ : ByteArray), findI (nodeAt v 0) (⟨#[105, 100]⟩ : ByteArray), findI (nodeAt v 0) (⟨#[102, 114, 111, 109]⟩ : ByteArray), findI (nodeAt v 0) (⟨#[116, 111]⟩ : ByteArray), elemsI v⟩
def emS : StL := ⟨0, emB, emB, emB, emB, []⟩
def goodI (v : List NodeL) : Bool := ((nodeAt v 0).space.toList == clientL) && blanksI v && stnI (ofV v)
def readE (v : List NodeL) : Int := if spaceErr v = 0 then (if goodI v then 0 else 220) else spaceErr v
def readS (v : List NodeL) : StL := if spaceErr v = 0 then (if goodI v then ofV v else emS) else emS
theorem kind_range (s : ByteArray) : 0 ≤ kindI s ∧ kindI s < 4 := by
  unfold kindI
  have h : placeI (fstP (eqT s) kindNames) < 4 := by
    cases hp : fstP (eqT s) kindNames with
    | none => decide
    | some k =>
      obtain ⟨x, hx, _⟩ := fstP_some hp
      have := (List.getElem?_eq_some_iff.1 hx).1
      have h4 : kindNames.length = 4 := rfl
      show ((k : Nat) : Int) < 4
      omega
  split <;> omega
end Go.Proofs.YtnmnpnofdgdigaaGreatDoor
end
section
/- Layer 22 (stanza): steps for the stanza of an element. -/
namespace Go.Proofs.YtnmnpnofdgdigaaGreatDoor
open Go.RowKit
set_option linter.unusedSimpArgs false
set_option linter.unusedVariables false
abbrev put6 (w : World) (g : Nat) (a b c d e f : Value) : World :=
  (((((w.setCell ⟨g, 0, none⟩ a).setCell ⟨g, 1, none⟩ b).setCell ⟨g, 2, none⟩ c).setCell ⟨g, 3, none⟩ d).setCell ⟨g, 4, none⟩ e).setCell ⟨g, 5, none⟩ f
theorem put6_heap {w : World} {g : Nat} {a0 b0 c0 d0 e0 f0 : Value} {t : TypeId} (h : w.heap[g]? = some (.cells #[a0, b0, c0, d0, e0, f0] t (0, 0))) (a b c d e f : Value) :
    (put6 w g a b c d e f).heap[g]? = some (.cells #[a, b, c, d, e, f] t (0, 0)) :=
  heap_setCell_same _ g 5 _ _ _ (heap_setCell_same _ g 4 _ _ _ (heap_setCell_same _ g 3 _ _ _ (heap_setCell_same _ g 2 _ _ _ (heap_setCell_same _ g 1 _ _ _ (heap_setCell_same _ g 0 _ _ _ h)))))
theorem put6_other {w : World} {g k : Nat} (hne : k ≠ g) (a b c d e f : Value) : (put6 w g a b c d e f).heap[k]? = w.heap[k]? := by
  unfold put6
  rw [heap_setCell_other _ _ k _ hne, heap_setCell_other _ _ k _ hne, heap_setCell_other _ _ k _ hne, heap_setCell_other _ _ k _ hne, heap_setCell_other _ _ k _ hne, heap_setCell_other _ _ k _ hne]
theorem put6_below {B : Nat} {w w' : World} (h : Below B w w') {g : Nat} (hg : B ≤ g) (a b c d e f : Value) : Below B w (put6 w' g a b c d e f) :=
  (((((h.setCell (p := ⟨g, 0, none⟩) hg a).setCell (p := ⟨g, 1, none⟩) hg b).setCell (p := ⟨g, 2, none⟩) hg c).setCell (p := ⟨g, 3, none⟩) hg d).setCell (p := ⟨g, 4, none⟩) hg e).setCell (p := ⟨g, 5, none⟩) hg f
theorem SAt.put {w : World} {g : Nat} {s : StL} {A : Option Addr} {c : Nat} (h : SAt w g s A c) (s' : StL) (A' : Option Addr) (c' : Nat) :
    SAt (put6 w g (.int .u8 s'.kind) (.string s'.typ) (.string s'.id) (.string s'.frm) (.string s'.to) (.slice A' s'.load.length c')) g s' A' c' := by
  obtain ⟨t, h⟩ := h
  exact ⟨t, put6_heap h _ _ _ _ _ _⟩
theorem SAt.extB {B : Nat} {w w' : World} {g : Nat} {s : StL} {A : Option Addr} {c : Nat} (h : SAt w g s A c) (hb : Below B w w') (hg : g < B) : SAt w' g s A c := by
  obtain ⟨t, h⟩ := h
  exact ⟨t, (hb.block g hg).trans h⟩
/-- a node in a row of its own -/
def NRow (w : World) (g : Nat) (n : NodeL) (A : Option Addr) (c : Nat) : Prop := ∃ t, w.heap[g]? = some (.cells #[.int .u8 n.kind, .string n.space, .string n.name, .slice A n.attrs.length c, .string n.text, .int .i64 n.many] t (0, 0))
section
variable {w w' : World} {g : Nat} {n : NodeL} {A : Option Addr} {c : Nat}
theorem NRow.c0 (h : NRow w g n A c) : w.cell? ⟨g, 0, none⟩ = some (.int .u8 n.kind) := by obtain ⟨t, h⟩ := h; simp [World.cell?, h]
theorem NRow.c1 (h : NRow w g n A c) : w.cell? ⟨g, 1, none⟩ = some (.string n.space) := by obtain ⟨t, h⟩ := h; simp [World.cell?, h]
theorem NRow.c2 (h : NRow w g n A c) : w.cell? ⟨g, 2, none⟩ = some (.string n.name) := by obtain ⟨t, h⟩ := h; simp [World.cell?, h]
theorem NRow.lt (h : NRow w g n A c) : g < w.heap.size := by obtain ⟨t, h⟩ := h; exact (Array.getElem?_eq_some_iff.1 h).1
theorem NRow.ext (h : NRow w g n A c) (hb : Below w.heap.size w w') : NRow w' g n A c := by obtain ⟨t, h⟩ := h; exact ⟨t, heap_ext h hb⟩
theorem NRow.new (w : World) (t : TypeId) (n : NodeL) (A : Option Addr) (c : Nat) : NRow (w.alloc (.cells #[.int .u8 n.kind, .string n.space, .string n.name, .slice A n.attrs.length c, .string n.text, .int .i64 n.many] t)) w.heap.size n A c := ⟨t, heap_alloc_new w _⟩
end
def PtS (B : Nat) : Ty := .inr fun u W => ∃ g, u = .pointer (some ⟨g, 0, none⟩) ∧ B ≤ g ∧ SAt W g emS none 0
theorem stable_ptS (B : Nat) : Stable (PtS B) := fun u W W' h hx => by
  obtain ⟨g, h1, h2, h3⟩ := h
  exact ⟨g, h1, h2, h3.ext hx⟩
section
variable {ops : Array Oper} {w0 : World} {Fin : List Ty → Prop} {rest : List Oper} {E : Env} {Ts : List Ty} {o : Oper}
theorem tw_names {ts : Array TypeId} (hop : o.op = .call { callee := .value (.func 33), args := #[], argTypes := ts }) (hw : Wd ops o E true)
    (hr : wpT Tryz.prog ops w0 Fin rest (E.put o.dst (SlS kindNames)) (SlS kindNames :: Ts)) : wpT Tryz.prog ops w0 Fin (o :: rest) E Ts :=
  tw_fn #[] (SlS kindNames) (stable_sls _) hop (fun W => enters_of (P := Tryz.prog) Tryz.func33 (by kernel_rfl) rfl _ W) rfl hw
    (fun W _ => (names_any W).mono fun e w' h => ⟨_, h.1, h.2.2, _, _, rfl, h.2.1⟩) hr
theorem tw_idx {m : Tmp} {x : Operand} {ts : Array TypeId} (l : List ByteArray) (s : ByteArray) (b : Int) (hb : placeI (fstP (eqT s) l) = b) (hl : l.length ≤ 1000) (hop : o.op = .call { callee := .value (.func 32), args := #[.tmp m, x], argTypes := ts }) (hE : E m = SlS l) (hx : evalE E x = some (.string s)) (hw : Wd ops o E true)
    (hr : wpT Tryz.prog ops w0 Fin rest (E.put o.dst (.inl (.int .i64 b))) (.inl (.int .i64 b) :: Ts)) : wpT Tryz.prog ops w0 Fin (o :: rest) E Ts :=
  tw_call (.inl (.int .i64 b)) (stable_is _) hw (fun a W hW hs' => by
    have h1 := hs' m (looks_of (x := .tmp m) (by rw [hop]; simp [Op.operands, Call.operands]) rfl)
    rw [hE] at h1
    obtain ⟨A, c, e1, e2⟩ := h1
    have h2 : a.eval (.tmp m) = .slice A l.length c := e1
    have h3 : a.eval x = .string s := evalE_of hx (by rw [hop]; simp [Op.operands, Call.operands]) hs'
    have e0 : a.eval (.func 32) = .func (.func 32) #[] #[] := rfl
    have hcf := enters_of (P := Tryz.prog) Tryz.func32 (by kernel_rfl) rfl #[.slice A l.length c, .string s] W
    refine ⟨32, #[.slice A l.length c, .string s], ?_, (index_any A c l s W e2 hl).mono fun e w' h => ⟨_, h.1, by rw [← h.2]; exact Ext.refl _, by show _ = _; rw [hb]⟩⟩
    unfold execOp
    simp only [hop, resolve, e0, Deferred.ofValue, List.map_toArray, List.map_cons, List.map_nil, h2, h3, Sem.run_bind, Sem.run_pure, Result.andThen_ok, invoke, Array.append_empty, Array.empty_append, hcf]) hr
theorem tw_max0 {x : Operand} (n k : Int) (hk : (if 0 > n then 0 else n) = k) (hop : o.op = .call { callee := .builtin .max, args := #[x, .const (.int .i64 0)], argTypes := #[3, 3] }) (hx : evalE E x = some (.int .i64 n)) (hw : Wd ops o E true)
    (hr : wpT Tryz.prog ops w0 Fin rest (E.put o.dst (.inl (.int .i64 k))) (.inl (.int .i64 k) :: Ts)) : wpT Tryz.prog ops w0 Fin (o :: rest) E Ts :=
  tw_pure _ hw (fun a W hW hs => by
    have h1 : a.eval x = .int .i64 n := evalE_of hx (by rw [hop]; simp [Op.operands, Call.operands]) hs
    have h2 : a.eval (.const (.int .i64 0)) = .int .i64 0 := rfl
    subst hk
    unfold execOp
    simp only [hop, resolve, invoke, builtin, Sem.run_bind, Sem.run_pure, Result.andThen_ok, List.map_toArray, List.map_cons, List.map_nil, h1, h2]
    go_simp
    first | done | (split <;> omega)) hr
theorem tw_cvu {x : Operand} (k : Int) (h0 : 0 ≤ k) (h1 : k < 256) (hop : o.op = .convert 3 5 x) (hx : evalE E x = some (.int .i64 k)) (hw : Wd ops o E true)
    (hr : wpT Tryz.prog ops w0 Fin rest (E.put o.dst (.inl (.int .u8 k))) (.inl (.int .u8 k) :: Ts)) : wpT Tryz.prog ops w0 Fin (o :: rest) E Ts :=
  tw_pure _ hw (fun a W hW hs => by
    have h2 : a.eval x = .int .i64 k := evalE_of hx (by rw [hop]; simp [Op.operands]) hs
    have hwr : IntKind.wrap .u8 k = k := by simp [IntKind.wrap, IntKind.bits, IntKind.signed]; omega
    unfold execOp
    simp only [hop, h2]
    go_simp
    try rw [hwr]) hr
set_option maxRecDepth 10000 in
theorem tw_ldN {x : Operand} {g : Nat} {n : NodeL} {A : Option Addr} {c : Nat} (hop : o.op = .load 36 x) (hE : evalE E x = some (.pointer (some ⟨g, 0, none⟩))) (hc : ∀ W, Ext w0 W → NRow W g n A c) (hw : Wd ops o E true)
    (hr : wpT Tryz.prog ops w0 Fin rest (E.put o.dst (.inl (encN n A c))) (.inl (encN n A c) :: Ts)) : wpT Tryz.prog ops w0 Fin (o :: rest) E Ts :=
  tw_pure (encN n A c) hw (fun a W hW hs => by
    have h1 : a.eval x = .pointer (some ⟨g, 0, none⟩) := evalE_of hE (by rw [hop]; simp [Op.operands]) hs
    obtain ⟨t, h2⟩ := hc W hW
    have h3 := run_loadVar_row (P := Tryz.prog) W g t 36 _ (0, 0) _ h2 Tryz.underlying36 rfl (by kernel_rfl)
    unfold execOp
    have h4 : (Instr.sureAddr (.pointer (some ⟨g, 0, none⟩))).run Tryz.prog W = .ok ⟨g, 0, none⟩ W := by first | rfl | (go_simp; done) | (simp [Instr.sureAddr, asAddr]; done)
    simp only [hop, h1, Instr.loadAt, Sem.run_bind, Sem.run_pure, Result.andThen_ok, h4, h3]
    rfl) hr
theorem tw_bldS {x0 x1 x2 x3 x4 x5 : Operand} (s : StL) (A : Option Addr) (c : Nat) (hop : o.op = .build 27 #[(0, x0), (1, x1), (2, x2), (3, x3), (4, x4), (5, x5)])
    (h0 : evalE E x0 = some (.int .u8 s.kind)) (h1 : evalE E x1 = some (.string s.typ)) (h2 : evalE E x2 = some (.string s.id)) (h3 : evalE E x3 = some (.string s.frm)) (h4 : evalE E x4 = some (.string s.to)) (h5 : evalE E x5 = some (.slice A s.load.length c)) (hw : Wd ops o E true)
    (hr : wpT Tryz.prog ops w0 Fin rest (E.put o.dst (.inl (encS s A c))) (.inl (encS s A c) :: Ts)) : wpT Tryz.prog ops w0 Fin (o :: rest) E Ts :=
  tw_pure _ hw (fun a W hW hs => by
    have e0 : a.eval x0 = _ := evalE_of h0 (by rw [hop]; simp [Op.operands]) hs
    have e1 : a.eval x1 = _ := evalE_of h1 (by rw [hop]; simp [Op.operands]) hs
    have e2 : a.eval x2 = _ := evalE_of h2 (by rw [hop]; simp [Op.operands]) hs
    have e3 : a.eval x3 = _ := evalE_of h3 (by rw [hop]; simp [Op.operands]) hs
    have e4 : a.eval x4 = _ := evalE_of h4 (by rw [hop]; simp [Op.operands]) hs
    have e5 : a.eval x5 = _ := evalE_of h5 (by rw [hop]; simp [Op.operands]) hs
    unfold execOp encS
    simp only [hop, List.map_toArray, List.map_cons, List.map_nil, e0, e1, e2, e3, e4, e5]
    go_simp) hr
theorem tw_bldS0 {x1 x2 x3 x4 x5 : Operand} (s : StL) (A : Option Addr) (c : Nat) (hop : o.op = .build 27 #[(1, x1), (2, x2), (3, x3), (4, x4), (5, x5)])
    (h1 : evalE E x1 = some (.string s.typ)) (h2 : evalE E x2 = some (.string s.id)) (h3 : evalE E x3 = some (.string s.frm)) (h4 : evalE E x4 = some (.string s.to)) (h5 : evalE E x5 = some (.slice A s.load.length c)) (hw : Wd ops o E true)
    (hr : wpT Tryz.prog ops w0 Fin rest (E.put o.dst (.inl (encS { s with kind := 0 } A c))) (.inl (encS { s with kind := 0 } A c) :: Ts)) : wpT Tryz.prog ops w0 Fin (o :: rest) E Ts :=
  tw_pure _ hw (fun a W hW hs => by
    have e1 : a.eval x1 = _ := evalE_of h1 (by rw [hop]; simp [Op.operands]) hs
    have e2 : a.eval x2 = _ := evalE_of h2 (by rw [hop]; simp [Op.operands]) hs
    have e3 : a.eval x3 = _ := evalE_of h3 (by rw [hop]; simp [Op.operands]) hs
    have e4 : a.eval x4 = _ := evalE_of h4 (by rw [hop]; simp [Op.operands]) hs
    have e5 : a.eval x5 = _ := evalE_of h5 (by rw [hop]; simp [Op.operands]) hs
    unfold execOp encS
    dsimp only
    simp only [hop, List.map_toArray, List.map_cons, List.map_nil, e1, e2, e3, e4, e5]
    go_simp) hr
theorem tw_allocS (B : Nat) (hB : ∀ W, Ext w0 W → B ≤ W.heap.size) (hop : o.op = .alloc 27) (hw : Wd ops o E true)
    (hr : wpT Tryz.prog ops w0 Fin rest (E.put o.dst (PtS B)) (PtS B :: Ts)) : wpT Tryz.prog ops w0 Fin (o :: rest) E Ts :=
  tw_val (PtS B) (stable_ptS B) hw (fun a W hW hs => by
    refine ⟨.pointer (some ⟨W.heap.size, 0, none⟩), W.alloc (.cells #[.int .u8 0, .string ⟨#[]⟩, .string ⟨#[]⟩, .string ⟨#[]⟩, .string ⟨#[]⟩, .slice none 0 0] 27), ?_, (Below.refl _ W).alloc (Nat.le_refl _) _, W.heap.size, rfl, hB W hW, SAt.new W _ emS none 0⟩
    unfold execOp
    simp only [hop]
    go_simp) hr
end
end Go.Proofs.YtnmnpnofdgdigaaGreatDoor
end
