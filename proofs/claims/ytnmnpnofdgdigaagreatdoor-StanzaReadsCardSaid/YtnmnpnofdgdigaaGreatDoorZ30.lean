import Derived.Test.YtnmnpnofdgdigaaGreatDoorZ29
import Derived.Test.YtnmnpnofdgdigaaGreatDoorZ01
import Derived.WalkKit
import Derived.ProofKit
import Derived.OpenShut
import Derived.ChangeOld
import Derived.Below
import Derived.Deep.DeepHandedRow
import Derived.Deep.DeepWitnessRowRef
import Derived.SizedLaws
import Derived.Shelf.LaysM
import Derived.Lib.LaidIn
import Derived.Lib.LaidU8
import Derived.Lib.DecodeN
import Derived.JoinedCond
import Derived.Test.YtnmnpnofdgdigaaGreatDoorCards
import Derived.Test.YtnmnpnofdgdigaaGreatDoorTie
import Derived.SevenTiedAt
set_option linter.all false
section
/- Layer 22 (stanza): the law StanzaReads: its walk. -/
namespace Go.Proofs.YtnmnpnofdgdigaaGreatDoor
open Go.RowKit
set_option linter.unusedSimpArgs false
set_option linter.unusedVariables false
theorem szv_small {v : List NodeL} {M : Nat} (hz : SzV M v) (h1 : v.length ≤ 60) (h2 : ∀ (i : Nat) (n : NodeL), i < v.length → v[i]? = some n → SmallN n) : SzV 1000000000 v := by
  refine ⟨by omega, fun n hn => ?_⟩
  obtain ⟨i, hi, rfl⟩ := List.mem_iff_getElem.1 hn
  obtain ⟨q1, q2, q3, q4, q5⟩ := h2 i _ hi (List.getElem?_eq_getElem hi)
  have hs := hz.2 _ hn
  refine ⟨hs.1, by omega, by omega, ⟨by omega, fun a ha => ?_⟩, by omega, hs.2.2.2.2.2⟩
  obtain ⟨j, hj, rfl⟩ := List.mem_iff_getElem.1 ha
  obtain ⟨r1, r2, r3⟩ := q5 j _ hj (List.getElem?_eq_getElem hj)
  exact ⟨by omega, by omega, by omega⟩
/-- the rows that the law spoils -/
def SpoilI (B g4 g5 : Nat) (w : World) (ts : List TreeH) : Prop :=
  ∀ (i : Nat) (x : TreeH), ts[i]? = some x → ∃ g cur e, x.2.1 = some ⟨g, 0, none⟩ ∧ 0 < x.1.length ∧ w.cell? ⟨g5, i, none⟩ = some (.slice (some ⟨g, 0, none⟩) x.1.length x.2.2) ∧ B ≤ g ∧ g ≠ g5 ∧ g ≠ g4 ∧ w.heap[g]? = some (.cells cur e (0, 0)) ∧ 6 ≤ cur.size
theorem SpoilI.set {B g4 g5 g : Nat} {w : World} {ts : List TreeH} (h : SpoilI B g4 g5 w ts) (hg : g ≠ g5) (u : Value) : SpoilI B g4 g5 (w.setCell ⟨g, 2, none⟩ u) ts := fun i x hi => by
  obtain ⟨g', cur, e, h1, h2, h3, h4, h5, h6, h7, h8⟩ := h i x hi
  have hcell : (w.setCell ⟨g, 2, none⟩ u).cell? ⟨g5, i, none⟩ = w.cell? ⟨g5, i, none⟩ := World.cell?_of_block (heap_setCell_other w _ g5 _ (Ne.symm hg))
  by_cases hgg : g' = g
  · subst hgg
    exact ⟨g', _, e, h1, h2, hcell.trans h3, h4, h5, h6, heap_setCell_same w g' 2 _ _ _ h7, by simpa using h8⟩
  · exact ⟨g', cur, e, h1, h2, hcell.trans h3, h4, h5, h6, (heap_setCell_other w _ g' _ hgg).trans h7, h8⟩
theorem SpoilI.ext {B g4 g5 : Nat} {w w' : World} {ts : List TreeH} (h : SpoilI B g4 g5 w ts) (hb : Below w.heap.size w w') : SpoilI B g4 g5 w' ts := fun i x hi => by
  obtain ⟨g', cur, e, h1, h2, h3, h4, h5, h6, h7, h8⟩ := h i x hi
  exact ⟨g', cur, e, h1, h2, (hb.cell (p := ⟨g5, i, none⟩) (World.block_lt_of_cell? w _ h3)).trans h3, h4, h5, h6, heap_ext h7 hb, h8⟩
theorem SpoilI.of {base n c : Nat} {A : Option Addr} {w w' : World} {ts : List TreeH} (h : RowT base (.slice A n c) w ts) (hn : n = ts.length) (h0 : 0 < n) (hb : Below w.heap.size w w') : ∃ g5, A = some ⟨g5, 0, none⟩ ∧ g5 < w.heap.size ∧ SpoilI base w.heap.size g5 w' ts := by
  subst hn
  obtain ⟨g5, rfl, h1, h2⟩ := own_some h.1 h0
  refine ⟨g5, rfl, h2, SpoilI.ext (fun i x hi => ?_) hb⟩
  obtain ⟨q1, q2, l, rfl', q4, q5, q6⟩ := h.2 x (List.mem_of_getElem? hi)
  obtain ⟨g, hg, e1, e2⟩ := own_some q4 q1
  refine ⟨g, ?_⟩
  rcases q4.2 with ⟨e3, e4⟩ | ⟨g', cap, cur, e3, e4, e5, e6, e7, e8, e9⟩
  · omega
  · rw [hg] at e3
    simp only [Value.slice.injEq, Option.some.injEq, Addr.mk.injEq, true_and, and_true] at e3
    obtain ⟨rfl, rfl⟩ := e3
    refine ⟨cur, _, hg, q1, ?_, e1, ?_, by omega, e5, by omega⟩
    · have hc := h.1.cellAt i (by have := (List.getElem?_eq_some_iff.1 hi).1; omega)
      refine hc.trans ?_
      simp [cellsT, hi, cT, hg]
    · intro hh
      apply q5
      rw [hg, hh]
      rfl
theorem readS_sz {v : List NodeL} (hz : SzV 1000000000 v) : SzW (readS v).load := by
  have h0 : SzW emS.load := ⟨by decide, fun x hx => by cases hx⟩
  unfold readS
  split
  · rename_i hs
    have ht : treeI v = true := by
      unfold spaceErr at hs
      split at hs
      · rename_i hsp; unfold spaceI at hsp; simp_all
      · omega
    split
    · exact elems_szw hz ht
    · exact h0
  · exact h0
set_option maxHeartbeats 16000000 in
set_option maxRecDepth 10000 in
theorem stanzareads_walk (v : List NodeL) (A : Option Addr) (c : Nat) (w : World) (hc : v.length ≤ c) (hr : RdV w w.heap.size A v) (hz : SzV maxLen v) (hg : Glb w) :
    Calls Tryz.prog 3 #[.slice A v.length c] w fun e w' => e = .returned (.bool true) ∧ Below w.heap.size w w' := by
  have HGR := Lib.hid (great_any v A c w hr)
  have HR := Lib.hid hr
  have HZ := Lib.hid hz
  have HG := Lib.hid hg
  clear hr hz hg
  go_enter Tryz.func3, Tryz.ntmps3
  go_wp2_with fail
  refine HGR.out.mono ?_
  rintro e w1 ⟨g, rfl, hb1, hgn⟩
  have X1 := Lib.hid hb1
  clear hb1
  cases g with
  | true =>
    go_wp2
    go_ret
    exact ⟨rfl, X1.out⟩
  | false =>
    have HZ1 := Lib.hid (szv_small HZ.out (hgn rfl).1 (hgn rfl).2)
    clear hgn HZ
    have HT := Lib.hid (reftwin_any A c v w1 ((HR.out.below X1.out (Nat.le_refl _)).more X1.out.size) HZ1.out)
    unfold TwinPost at HT
    go_wp2_with fail
    refine HT.out.mono ?_
    rintro e w2 ⟨A2, c2, rfl, hl2, hnew2, hb2⟩
    have X2 := Lib.hid (X1.out.trans (hb2.mono X1.out.size))
    have RO := Lib.hid (hnew2.rdv)
    have RV := Lib.hid ((HR.out.below X2.out (Nat.le_refl _)).more X2.out.size)
    clear hnew2 hb2 HT
    have HA := Lib.hid (sread_any v A2 c2 w2 hl2 HZ1.out RO.out (HG.out.below X2.out))
    unfold ReadPost at HA
    go_wp2_with fail
    refine HA.out.mono ?_
    rintro e w3 ⟨A5, c5, ts, rfl, hl5, hm5, hrow5, hb3⟩
    have hlen5 : (readS v).load.length = ts.length := by rw [← hm5, List.length_map]
    obtain ⟨W3, hW3⟩ : ∃ W3, W3 = w3.alloc (.cells #[.int .u8 (readS v).kind, .string (readS v).typ, .string (readS v).id, .string (readS v).frm, .string (readS v).to, .slice A5 (readS v).load.length c5] 27) := ⟨_, rfl⟩
    have hX3 : Below w3.heap.size w3 W3 := by rw [hW3]; exact (Below.refl _ _).alloc (Nat.le_refl _) _
    have S3 := Lib.hid (show SAt W3 w3.heap.size (readS v) A5 c5 by rw [hW3]; exact SAt.new _ _ _ _ _)
    have Y3 := Lib.hid (hb3.trans (hX3.mono hb3.size))
    have R3 := Lib.hid (RowT.rdw (hrow5.ext hX3) hlen5)
    have hsp5 : 0 < (readS v).load.length → ∃ g5, A5 = some ⟨g5, 0, none⟩ ∧ g5 < w3.heap.size ∧ SpoilI w2.heap.size w3.heap.size g5 W3 ts := fun h0 => SpoilI.of hrow5 hlen5 h0 hX3
    have HSP := Lib.hid hsp5
    rw [hm5] at R3
    have HW3 := Lib.hid hW3
    have HL5 := Lib.hid hlen5
    clear hlen5
    clear hW3 hX3 hb3 hrow5 hsp5 HA
    have HB := Lib.hid (refread_any v A c W3 hc HZ1.out ((RV.out.below Y3.out (Nat.le_refl _)).more Y3.out.size))
    unfold ReadPost at HB
    unfold encS
    go_wp2_with fail
    rw [← HW3.out]
    refine HB.out.mono ?_
    rintro e w4 ⟨A6, c6, ts6, rfl, hl6, hm6, hrow6, hb4⟩
    have hlen6 : (readS v).load.length = ts6.length := by rw [← hm6, List.length_map]
    obtain ⟨W4, hW4⟩ : ∃ W4, W4 = w4.alloc (.cells #[.int .u8 (readS v).kind, .string (readS v).typ, .string (readS v).id, .string (readS v).frm, .string (readS v).to, .slice A6 (readS v).load.length c6] 27) := ⟨_, rfl⟩
    have hX4 : Below w4.heap.size w4 W4 := by rw [hW4]; exact (Below.refl _ _).alloc (Nat.le_refl _) _
    have Z4 := Lib.hid (hb4.trans (hX4.mono hb4.size))
    have S4 := Lib.hid (S3.out.ext Z4.out)
    have T4 := Lib.hid (show SAt W4 w4.heap.size (readS v) A6 c6 by rw [hW4]; exact SAt.new _ _ _ _ _)
    have Y4 := Lib.hid (Y3.out.trans (Z4.out.mono Y3.out.size))
    have R4 := Lib.hid (RdW.ext R3.out Z4.out)
    have Q4 := Lib.hid (RowT.rdw (hrow6.ext hX4) hlen6)
    rw [hm6] at Q4
    have HW4 := Lib.hid hW4
    clear hlen6
    clear hW4 hX4 hb4 hrow6 HB
    have HSM := Lib.hid (same22_one (readS v) A5 A6 c5 c6 W4 R4.out Q4.out (readS_sz HZ1.out))
    have a0 := S4.out.c0
    have a1 := S4.out.c1
    have a2 := S4.out.c2
    have a3 := S4.out.c3
    have a4 := S4.out.c4
    have a5 := S4.out.c5
    have b0 := T4.out.c0
    have b1 := T4.out.c1
    have b2 := T4.out.c2
    have b3 := T4.out.c3
    have b4 := T4.out.c4
    have b5 := T4.out.c5
    rw [HW4.out] at a0 a1 a2 a3 a4 a5 b0 b1 b2 b3 b4 b5
    unfold encS at HSM ⊢
    go_wp2_with fail
    rw [← HW4.out]
    refine HSM.out.mono ?_
    rintro e w5 ⟨rfl, hb5⟩
    have U5 := Lib.hid (Y4.out.trans (hb5.mono Y4.out.size))
    have S5 := Lib.hid (S4.out.ext hb5)
    have SP5 : Hid (0 < (readS v).load.length → ∃ g5, A5 = some ⟨g5, 0, none⟩ ∧ g5 < w3.heap.size ∧ SpoilI w2.heap.size w3.heap.size g5 w5 ts) := Lib.hid (fun h0 => by
      obtain ⟨g5, e1, e2, e3⟩ := HSP.out h0
      exact ⟨g5, e1, e2, (e3.ext Z4.out).ext hb5⟩)
    clear hb5 a0 a1 a2 a3 a4 a5 b0 b1 b2 b3 b4 b5 HSM HSP
    go_wp2
    have hlenB := (readS_sz HZ1.out).1
    go_loopw [9] (fun s9 wr => ∃ i : Nat, i ≤ (readS v).load.length ∧ s9 = .int .i64 i ∧ Hid (Below w2.heap.size w2 wr) ∧ Hid (SAt wr w3.heap.size (readS v) A5 c5) ∧ Hid (0 < (readS v).load.length → ∃ g5, A5 = some ⟨g5, 0, none⟩ ∧ g5 < w3.heap.size ∧ SpoilI w2.heap.size w3.heap.size g5 wr ts)) (fun s9 _ => (readS v).load.length - (intOf s9).toNat)
    case atStart => exact ⟨0, Nat.zero_le _, rfl, U5, S5, SP5⟩
    case round =>
      obtain ⟨i, hi, rfl, HBR, HSR, HPR⟩ := hrel
      have a5 := HSR.out.c5
      by_cases hlt : i < (readS v).load.length
      · obtain ⟨g5, rfl, hg5, hsp⟩ := HPR.out (by omega)
        obtain ⟨x, hx⟩ : ∃ x, ts[i]? = some x := ⟨_, List.getElem?_eq_getElem (by rw [← HL5.out]; exact hlt)⟩
        obtain ⟨gi, cur, et, e1, e2, e3, e4, e5, e6, e7, e8⟩ := hsp i x hx
        have HSPI := Lib.hid hsp
        have f2 := frozen_of_row wr gi 2 _ _ e7
        obtain ⟨cv, hcv⟩ : ∃ cv, wr.cell? ⟨gi, 2, none⟩ = some cv := by
          refine ⟨cur[2], ?_⟩
          rw [cell_of_row _ _ 2 _ _ _ e7]
          simp
        have SN : Hid (SAt (wr.setCell ⟨gi, 2, none⟩ (.string (⟨#[115, 112, 111, 105, 108, 116]⟩ : ByteArray))) w3.heap.size (readS v) (some ⟨g5, 0, none⟩) c5) := Lib.hid (by
          obtain ⟨t, h⟩ := HSR.out
          exact ⟨t, (heap_setCell_other wr _ _ _ (Ne.symm e6)).trans h⟩)
        have BN : Hid (Below w2.heap.size w2 (wr.setCell ⟨gi, 2, none⟩ (.string (⟨#[115, 112, 111, 105, 108, 116]⟩ : ByteArray)))) := Lib.hid (HBR.out.setCell (p := ⟨gi, 2, none⟩) e4 _)
        have PN : Hid (0 < (readS v).load.length → ∃ g', (some ⟨g5, 0, none⟩ : Option Addr) = some ⟨g', 0, none⟩ ∧ g' < w3.heap.size ∧ SpoilI w2.heap.size w3.heap.size g' (wr.setCell ⟨gi, 2, none⟩ (.string (⟨#[115, 112, 111, 105, 108, 116]⟩ : ByteArray))) ts) := Lib.hid (fun _ => ⟨g5, rfl, hg5, HSPI.out.set e5 _⟩)
        clear hsp hx e7 e1
        go_wp2
        go_roundw
        case rel => exact ⟨i + 1, by omega, by go_num, BN, SN, PN⟩
        case measure => simp [intOf]; omega
      · obtain rfl : i = (readS v).load.length := by omega
        have HSO := Lib.hid (same_one v A2 A c2 c wr ((RO.out.below HBR.out (Nat.le_refl _)).more HBR.out.size) ((RV.out.below HBR.out (Nat.le_refl _)).more HBR.out.size) HZ1.out)
        go_wp2_with fail
        refine HSO.out.mono ?_
        rintro e w9 ⟨rfl, hb9⟩
        have X9 := Lib.hid ((X2.out.trans (HBR.out.mono X2.out.size)).trans (hb9.mono (X2.out.trans (HBR.out.mono X2.out.size)).size))
        clear hb9
        go_wp2
        go_ret
        exact ⟨rfl, X9.out⟩
end Go.Proofs.YtnmnpnofdgdigaaGreatDoor
end
section
/- The statement of 'StanzaReads': for every input the call returns true, and the argument reads behind the call as it read before; two tables of the library read as its text lays them. -/
namespace Go.Proofs.YtnmnpnofdgdigaaGreatDoor.stanzaReadsDone
open Go.ChangeShapes Go.WideShapes Go.ChangeAt Go.RowKit Go.Lib
set_option linter.unusedVariables false
/-- a world in which the two tables are laid -/
noncomputable def laidWorld (os : Os) : World :=
  let w0 := World.holding Tryz.prog os ⟨#[], #[], []⟩
  let put (h : Array Obj) (g : Nat) (cs : Array Value) : Array Obj := h.modify g fun
    | .cells _ t frozen => .cells cs t frozen
    | o => o
  let h1 := put w0.heap 0 (Lib.firstTab.map fun z => Value.int .u8 z).toArray
  let h2 := put h1 1 ((List.range 16).flatMap fun i => [Value.int .u8 (Lib.accLo i), Value.int .u8 (Lib.accHi i)]).toArray
  { w0 with heap := h2 }
theorem laid_met (os : Os) (args : Array Value) : laidMet Tryz.prog Rows.stanzaReadsRow.laid ((laidWorld os).forCall (fun _ _ => 0) ⟨#[], args, []⟩).memory :=
  (LaidIn.of_run [1, 0] 8 (by kernel_rfl) (by kernel_rfl) (by kernel_rfl) (by kernel_rfl) : LaidIn Tryz.prog ((laidWorld os).forCall (fun _ _ => 0) ⟨#[], args, []⟩).memory Rows.stanzaReadsRow.laid [1, 0]).met
theorem witness_row (os : Os) {H : Type} (enc : TypeId × Value → H) :
    (OpenSpec.ofChange Rows.stanzaReadsSpec).preRow enc Tryz.prog Tryz.f3 Rows.stanzaReadsRow.domain false Rows.stanzaReadsRow.laid ((laidWorld os).forCall (fun _ _ => 0) ⟨#[], #[.slice none 0 0], []⟩).memory #[.slice none 0 0] := by
  have hw : (DataW.whole enc Tryz.prog ((laidWorld os).forCall (fun _ _ => 0) ⟨#[], #[.slice none 0 0], []⟩).memory Tryz.f3.params.toList (OpenSpec.ofChange Rows.stanzaReadsSpec).vars false #[Value.slice none 0 0].toList 8).map (fun x => (x.1, x.2.1)) =
      some ([.nil], []) := by kernel_rfl
  obtain ⟨⟨x1, x2, x3⟩, hx, hx1⟩ := Option.map_eq_some_iff.1 hw
  simp only [Prod.mk.injEq] at hx1
  obtain ⟨rfl, rfl⟩ := hx1
  exact OpenSpec.preRow_of_cond 8 hx (by kernel_rfl) (fun k hk => by cases hk) (by kernel_rfl) (laid_met os _)
theorem glb_of {W : World} (h : W.ShapedOpen Tryz.prog) : Glb W :=
  Go.Proofs.cell_of_shapedOpen_int (zero := #[.int .i64 0]) (t := 3) h (of_decide_eq_true (by kernel_rfl)) (by kernel_rfl) rfl (by kernel_rfl) (by kernel_rfl) Tryz.underlying3
set_option maxRecDepth 100000 in
set_option maxHeartbeats 2000000 in
theorem lifted (os : Os) (started : os.Started) (H : Type) (enc : TypeId × Value → H) (F : Stop.Interp) :
    ReturnsInHanded {} Tryz.checked os 3 .any ((OpenSpec.ofChange Rows.stanzaReadsSpec).preRow enc Tryz.prog Tryz.f3 Rows.stanzaReadsRow.domain false Rows.stanzaReadsRow.laid) (((OpenSpec.ofChange Rows.stanzaReadsSpec).at F).post enc Tryz.prog Tryz.f3 false true false false) := by
  refine returnsInHanded_of_row (C := Tryz.checked) (s := OpenSpec.ofChange Rows.stanzaReadsSpec) own started (by kernel_rfl) Tryz.func3
    (witness_row_atRef (enc := enc) (C := Tryz.checked) false (laidWorld os) #[.slice none 0 0] rfl (by kernel_rfl) (by kernel_rfl) (by kernel_rfl) (witness_row os enc)) ?_
  intro W base args ds gs before hval0 hW _ _ _ _ hsh _
  have hval : ∀ (j : Nat) t v, Tryz.f3.params[j]? = some t → args[j]? = some v → Value.okWide Tryz.prog W .any base t v := hval0
  have hW' := hW
  obtain ⟨p, q, hA0, hV, rfl, hfz, hnd⟩ := hW
  have hA : DataW.TrodAll enc Tryz.prog W 0 (fun _ => true) true Tryz.f3.params.toList args.toList ds p := hA0
  rw [Tryz.params3] at hA hval
  obtain ⟨v0, vs0, d0, ds0, p0, q0, hargs, rfl, rfl, h0, r0⟩ := trodAll_cons hA
  obtain ⟨rfl, rfl, rfl⟩ := trodAll_nil r0
  obtain rfl : args = #[v0] := by cases args; simp_all
  obtain ⟨rfl, rfl⟩ := trodVars_none hV
  have k0 := h0
  have lt0 : ∀ x ∈ p0, x.block < W.heap.size := by obtain ⟨m, hm⟩ := k0; exact DataW.trod_lt m _ _ _ hm
  obtain ⟨a0, len0, cap0, rfl⟩ := okWide_slice Tryz.underlying22 (hval 0 22 v0 rfl rfl)
  obtain ⟨A, v, c, hcs, hc, hr, hz⟩ : ∃ (A : Option Addr) (v : List NodeL) (c : Nat), [Value.slice a0 len0 cap0] = [.slice A v.length c] ∧ v.length ≤ c ∧ RdV W W.heap.size A v ∧ SzV maxLen v := by
    obtain ⟨fuel, hf⟩ := h0
    simp only [Value.cells] at hf
    exact open_nodes hf
  simp only [List.cons.injEq, Value.slice.injEq, and_true] at hcs
  obtain ⟨rfl, rfl, rfl⟩ := hcs
  clear hA0 hval0
  refine (stanzareads_walk v a0 cap0 W hc hr hz (glb_of hsh)).mono fun e W' ⟨he, bel⟩ => ?_
  subst he
  exact ⟨_, rfl, _, _, _, [], _, [], hW', trodAll_mk1 (shut_bool Tryz.underlying4 _), (trodAll_cons_mk (Below.trod laidOut (by kernel_rfl) (of_decide_eq_true (by kernel_rfl)) k0 bel lt0) trodAll_mk0), rfl, bel.frame _, fun h => by cases h⟩
end Go.Proofs.YtnmnpnofdgdigaaGreatDoor.stanzaReadsDone
end
section
/- The tied card of 'StanzaReads'. -/
namespace Go.Proofs.YtnmnpnofdgdigaaGreatDoor.stanzaReadsDone
open Go.ChangeShapes Go.WideShapes Go.ChangeAt Go.RowKit Go.Lib
set_option linter.unusedVariables false
theorem closed : joinedFacts Tryz.prog 3 Tryz.f3 (OpenSpec.ofChange Rows.stanzaReadsSpec).bare Rows.stanzaReadsRow = true := by
  delta joinedFacts
  rewrite [may_enter, lifts_final, make_cut, laidOut, maps_rowed, stops_heard, stops_none, stopKnobs_none]
  kernel_rfl
theorem inst : Tryz.f3.isInstance Tryz.prog Rows.stanzaReadsRow.origin Rows.stanzaReadsRow.targs := of_decide_eq_true (by kernel_rfl)
theorem wrap : Tryz.f3.isWrapper Tryz.prog Rows.stanzaReadsRow.wrapper Rows.stanzaReadsRow.mainSum := by unfold Func.isWrapper; first | (rw [if_pos (by decide +kernel)]; kernel_rfl) | (rw [if_neg (by decide +kernel)]; exact ⟨rfl, rfl⟩)
set_option maxRecDepth 100000 in
theorem over : Rows.stanzaReadsRow.holds Tryz.pinned (OpenSpec.ofChange Rows.stanzaReadsSpec) :=
  OpenClaim.holds_of_cond 3 Tryz.f3 rfl rfl rfl rfl rfl rfl rfl ⟨rfl, rfl, rfl, rfl, rfl⟩ rfl rfl rfl rfl rfl (by kernel_rfl) Tryz.func3 closed inst wrap
    (fun os started H enc _ F0 => by rw [OpenClaim.pre_eq_preRow]; exact lifted os started H enc F0)
theorem proved : Rows.StanzaReadsCardSaid :=
  Claim7.holds_tied_plain_at .later [] [.data, .pinned] true (true, "89ded513e3b69e433ca6889fb9ec701f12fd24858b342dc03a31828d4c60f8aa") false
    over (fun _ h => by cases h) (by kernel_rfl) (fun _ h => by cases h) stanzaReads_row_tie rfl ⟨rfl, rfl⟩ (by kernel_rfl) rfl
    (fun f fn hf hfn => by
      obtain rfl : f = 3 := Option.some.inj ((show Tryz.prog.funcNamed "tidewaiter/tidewaiterlaw22.StanzaReads" = some 3 by kernel_rfl).symm.trans hf) |>.symm
      obtain rfl : fn = Tryz.f3 := (Option.some.inj (Tryz.func3.symm.trans hfn)).symm
      exact ⟨by kernel_rfl, fun j t ht => by
        rw [Tryz.params3] at ht
        have h3 : t = 22 := by
          rcases j with _ | j
          · simpa using ht.symm
          · simp at ht
        subst h3
        exact (show Tryz.prog.wantsStandIn 22 = false by kernel_rfl)⟩)
    (by kernel_rfl)
#print axioms proved
end Go.Proofs.YtnmnpnofdgdigaaGreatDoor.stanzaReadsDone
end
