/- Part 11 of a proof laid in parts, one behind the other; no condition of its own. -/
import Derived.Test.YtnfokaecobddkaaGreatDoorZ10
import Derived.Test.YtnfokaecobddkaaGreatDoorZ05
import Derived.Test.YtnfokaecobddkaaGreatDoorZ01
set_option linter.all false
section
namespace Go.Proofs.YtnfokaecobddkaaGreatDoor
open Go.RowKit
set_option linter.unusedSimpArgs false
set_option linter.unusedVariables false
def treeErr (v : List NodeL) : Int := if treeI v then 0 else 8
theorem tcheck_any (v : List NodeL) (A : Option Addr) (c : Nat) (w : World) (hc : v.length ≤ c) (hz : SzV 1000000000 v) (hr : RdV w w.heap.size A v) :
    Calls Tryz.prog 70 #[.slice A v.length c] w fun e w' => e = .returned (.int .i64 (treeErr v)) ∧ Below w.heap.size w w' := by
  have H := Lib.hid (behind_any v A c w hc hz hr)
  have hq := fun W a n m => eql_nil (P := Tryz.prog) W 121 3 a n m Tryz.underlying121
  unfold BehPost at H
  clear hr hz hc
  generalize v.length = N at *
  go_enter Tryz.func70, Tryz.ntmps70
  go_wp2_with fail
  refine H.out.mono ?_
  rintro e w1 ⟨hb, ⟨ht, rfl⟩ | ⟨ht, g, es, rfl, -⟩⟩
  all_goals
    have X := Lib.hid hb
    have HT := Lib.hid ht
    clear hb ht
    go_wp2
    go_ret
    exact ⟨ret_int (by unfold treeErr; rw [HT.out]; rfl), X.out⟩
def AskPost (v : List NodeL) (w : World) (e : Ending) (w' : World) : Prop :=
  ∃ g es, e = .returned (.tuple #[.slice (some ⟨g, 0, none⟩) v.length v.length, .int .i64 0]) ∧ Below w.heap.size w w' ∧ w.heap.size ≤ g ∧ RowI w' g es ∧ es.length = v.length ∧ Filled v es 0 v.length
theorem asked_any (v : List NodeL) (A : Option Addr) (c i : Nat) (w : World) (hc : v.length ≤ c) (hz : SzV 1000000000 v) (hr : RdV w w.heap.size A v) (ht : treeI v = true) (hi : i < v.length) :
    Calls Tryz.prog 128 #[.slice A v.length c, .int .i64 (i : Int)] w (AskPost v w) := by
  have H := Lib.hid (behind_any v A c w hc hz hr)
  have hq := fun W a n m => eql_nil (P := Tryz.prog) W 121 3 a n m Tryz.underlying121
  unfold BehPost at H
  have HT := Lib.hid ht
  have hi0 : ¬ (i : Int) < 0 := by omega
  have hi1 : ¬ (v.length : Int) ≤ (i : Int) := by omega
  have hin : (i : Int) < (v.length : Int) := by omega
  clear hr hz hc ht
  go_enter Tryz.func128, Tryz.ntmps128
  go_wp2_with fail
  refine H.out.mono ?_
  rintro e w1 ⟨hb, ⟨ht, rfl⟩ | ⟨ht, g, es, rfl, h1, h2, h3, h4⟩⟩
  · rw [HT.out] at ht; cases ht
  · have X := Lib.hid hb
    have Y1 := Lib.hid h1
    have Y2 := Lib.hid h2
    have Y3 := Lib.hid h3
    have Y4 := Lib.hid h4
    clear hb ht h1 h2 h3 h4
    go_wp2
    go_ret2
    exact ⟨g, es, rfl, X.out, Y1.out, Y2.out, Y3.out, Y4.out⟩
theorem own_mono {w : World} {base base' s n : Nat} {e : TypeId} {v : Value} {xs : List Value} (h : w.ownsRow base e s v n xs) (hb : base' ≤ base) : w.ownsRow base' e s v n xs := by
  refine ⟨h.1, ?_⟩
  rcases h.2 with h1 | ⟨g, cap, cur, h1, h2, h3⟩
  · exact .inl h1
  · exact .inr ⟨g, cap, cur, h1, by omega, h3⟩
def KidsPost (v : List NodeL) (i : Nat) (w : World) (e : Ending) (w' : World) : Prop :=
  ∃ u, e = .returned (.tuple #[u, .int .i64 0]) ∧ w'.ownsRow w.heap.size 3 1 u (kidsI v i).length (ints .i64 ((kidsI v i).map fun k : Nat => (k : Int))) ∧ Below w.heap.size w w'
set_option maxHeartbeats 4000000 in
set_option maxRecDepth 10000 in
theorem kids_any (v : List NodeL) (A : Option Addr) (c i : Nat) (w : World) (hc : v.length ≤ c) (hz : SzV 1000000000 v) (hr : RdV w w.heap.size A v) (ht : treeI v = true) (hi : i < v.length) :
    Calls Tryz.prog 81 #[.slice A v.length c, .int .i64 (i : Int)] w (KidsPost v i w) := by
  have H := Lib.hid (asked_any v A c i w hc hz hr ht hi)
  unfold AskPost at H
  obtain ⟨e, he, hie, hel⟩ := tree_ends ht hi
  have hN := (tree_parts ht).2.1
  have HCH := Lib.hid (chain_start he)
  have hme := ((chain_start he).lt (by omega)).1
  have HE := Lib.hid he
  have HK : Hid (kidsI v i = kidL v (manyN v i) (i + 1)) := rfl
  clear hr hz hc ht he
  generalize manyN v i = m at *
  go_enter Tryz.func81, Tryz.ntmps81
  go_wp2_with fail
  refine H.out.mono ?_
  rintro e1 w1 ⟨g, es, rfl, hb, hg, hrow, hel2, hfi⟩
  have X := Lib.hid hb
  have HG := hg
  have HROW := Lib.hid hrow
  have HFI := Lib.hid hfi
  have HEL := Lib.hid hel2
  have hgs := row_lt hrow.choose_spec
  clear hb hrow hfi hel2
  go_wp2
  go_loopw [4, 7] (fun s4 s7 wr => ∃ (j : Nat), j ≤ m ∧ s7 = .int .i64 (kidP v j (i + 1) : Nat) ∧ Hid (Below w1.heap.size w1 wr) ∧ Hid (wr.ownsRow w1.heap.size 3 1 s4 j (ints .i64 ((kidL v j (i + 1)).map fun k : Nat => (k : Int))))) (fun _ s7 _ => e - (intOf s7).toNat)
  case atStart => exact ⟨0, Nat.zero_le _, by unfold kidP; go_num, Lib.hid (Below.refl _ _), World.ownsRow_nil _ _ _ _⟩
  case round =>
    obtain ⟨j, hj, rfl, HB, HO⟩ := hrel
    obtain ⟨hch, hple⟩ := kidP_chain (by decide) (by omega) HCH.out j hj
    obtain ⟨A4, c4, rfl⟩ := own_form HO.out
    have HROWr : Hid (RowI wr g es) := HROW.out.ext HB.out
    obtain ⟨q, hq1, hq2⟩ := HFI.out i (Nat.zero_le _) hi
    rw [HE.out] at hq2
    simp only [Option.some.injEq] at hq2
    subst hq2
    have d0 := HROWr.out.cell hq1
    by_cases hlt : j < m
    · rw [show m - j = (m - (j + 1)) + 1 by omega] at hch
      have hl := hch.lt hple
      obtain ⟨x, hx, hlx, hlv, hxv, hch2⟩ := hch.step (by decide)
      have hl2 := hch2.lt hxv
      obtain ⟨q, hq3, hq4⟩ := HFI.out _ (Nat.zero_le _) hlv
      rw [hx] at hq4
      simp only [Option.some.injEq] at hq4
      subst hq4
      have HS : Hid (kidL v (j + 1) (i + 1) = kidL v j (i + 1) ++ [kidP v j (i + 1)]) := kidL_succ v j (i + 1)
      have HP : Hid (kidP v (j + 1) (i + 1) = x) := by show _ = _; rw [kidP, hx]; rfl
      clear hq1 hch hch2 hx
      generalize kidP v j (i + 1) = p at *
      have ho := HO.out
      have hsz := HB.out.size
      have hrn : Rd (wr.alloc (.cells #[.int .i64 (p : Int)] 3)) (wr.heap.size + 1) 1 (some ⟨wr.heap.size, 0, none⟩) 1 (ints .i64 [(p : Int)]) := rd_int1 wr _ _ _
      have HRN := Lib.hid hrn
      have HOA := Lib.hid (ho.alloc (.cells #[.int .i64 (p : Int)] 3))
      have HQ3 := Lib.hid hq3
      clear ho hrn hq3
      go_wp2_with (at_builtin; refine app_i64s rfl _ _ rfl w1.heap.size _ j _ rfl HOA.out _ _ _ _ _ rfl HRN.out (by omega) (by simp; omega) ?_)
      intro v4 w4 hown4 hg4 hbk
      have HX4 : Hid (Below w1.heap.size w1 w4) := (HB.out.alloc hsz _).grown hg4 (by simp; omega) (fun q hq => (HO.out.lt q hq).1)
      have HO4 := Lib.hid hown4
      have d1 := (HROW.out.ext HX4.out).cell HQ3.out
      clear hown4 hg4 hbk d0
      go_wp2
      go_roundw
      case rel => exact ⟨j + 1, by omega, by rw [HP.out], HX4, by rw [HS.out, List.map_append]; exact HO4.out⟩
      case measure => simp [intOf]; omega
    · obtain rfl : j = m := by omega
      rw [Nat.sub_self] at hch
      have hpe := hch.zero
      have HLEN : Hid ((kidL v j (i + 1)).length = j) := kidL_len _ _ _
      rw [hpe]
      clear hq1 hch hpe
      go_wp2
      go_ret2
      exact ⟨_, rfl, by rw [show kidsI v i = _ from HK.out, HLEN.out]; exact own_mono HO.out X.out.size, X.out.trans (HB.out.mono X.out.size)⟩
theorem size_nodes (W : World) : (sizeOf (Tryz.prog.elem 30)).run Tryz.prog W = .ok 6 W := by kernel_rfl
theorem mid_nodes (A : Option Addr) (m c i j : Nat) (hij : i ≤ j) (hj : j ≤ m) (hc : m ≤ c) : ∃ A', (∀ W, (Instr.slice 30 (.slice A m c) (some (.int .i64 (i : Int))) (some (.int .i64 (j : Int))) none).run Tryz.prog W = .ok (.slice A' (j - i) (c - i)) W) ∧
    ∀ W B (v : List NodeL), v.length = m → RdV W B A v → RdV W B A' ((v.drop i).take (j - i)) := by
  refine ⟨if c = i then A else A.map (·.add (i * 6)), fun W => ?_, fun W B v hl h => ?_⟩
  · rw [run_slice_lh W 30 A m c (by kernel_rfl) .i64 .i64 i j (by omega) (by omega) (by omega), size_nodes]
    rfl
  · intro h0
    rw [List.length_take, List.length_drop] at h0
    obtain ⟨b, off, rfl, hb, hcell⟩ := h (by omega)
    rw [if_neg (by omega)]
    refine ⟨b, off + i * 6, by simp [Addr.add], hb, fun k n hk => ?_⟩
    rw [List.getElem?_take] at hk
    split at hk
    · rw [List.getElem?_drop] at hk
      have := hcell (i + k) n hk
      rwa [show off + i * 6 + k * 6 = off + (i + k) * 6 by rw [Nat.add_mul]; omega]
    · cases hk
def SubPost (v : List NodeL) (i : Nat) (w : World) (e : Ending) (w' : World) : Prop :=
  ∃ A' c', e = .returned (.tuple #[.slice A' (partI v i).length c', .int .i64 0]) ∧ (partI v i).length ≤ c' ∧ NewV w.heap.size w' A' c' (partI v i) ∧ Below w.heap.size w w'
theorem NewV.mono {base base' : Nat} {w : World} {A : Option Addr} {c : Nat} {v : List NodeL} (h : NewV base w A c v) (hb : base' ≤ base) : NewV base' w A c v := by
  obtain ⟨l, h1, h2, h3⟩ := h
  refine ⟨l, h1, own_mono h2 hb, fun i x hi => ⟨(h3 i x hi).1, fun h0 => ?_⟩⟩
  obtain ⟨b, off, e1, e2, e3⟩ := (h3 i x hi).2 h0
  exact ⟨b, off, e1, by omega, e3⟩
set_option maxHeartbeats 4000000 in
set_option maxRecDepth 10000 in
theorem sub_any (v : List NodeL) (A : Option Addr) (c i : Nat) (w : World) (hc : v.length ≤ c) (hz : SzV 1000000000 v) (hr : RdV w w.heap.size A v) (ht : treeI v = true) (n : NodeL) (hn : v[i]? = some n) (hk : n.kind = 1) :
    Calls Tryz.prog 83 #[.slice A v.length c, .int .i64 (i : Int)] w (SubPost v i w) := by
  have hi := (List.getElem?_eq_some_iff.1 hn).1
  have H := Lib.hid (asked_any v A c i w hc hz hr ht hi)
  unfold AskPost at H
  obtain ⟨e, he, hie, hel⟩ := tree_ends ht hi
  have hN := (tree_parts ht).2.1
  have HPL : Hid ((partI v i).length = e - i) := part_len he
  have HPD : Hid (partI v i = (v.drop i).take (e - i)) := by show _ = _; unfold partI; rw [he]; rfl
  have HE := Lib.hid he
  have HPZ : Hid (SzV 1000000000 (partI v i)) := ⟨by rw [HPL.out]; omega, part_sz hz.2⟩
  have HR := Lib.hid hr
  obtain ⟨b, off, rfl, hb, hcc⟩ := hr (by omega)
  have c0 := (hcc i n hn).1
  rw [hk] at c0
  have HC0 := Lib.hid c0
  have hin : (i : Int) < (v.length : Int) := by omega
  obtain ⟨A2, hsl, hrd⟩ := mid_nodes (some ⟨b, off, none⟩) v.length c i e (by omega) hel hc
  have HRD := Lib.hid hrd
  have hci : ¬ c = i := by omega
  clear hz hc ht he hn hcc hrd hr c0
  unfold SubPost
  go_enter Tryz.func83, Tryz.ntmps83
  go_wp2_with fail
  refine H.out.mono ?_
  rintro e1 w1 ⟨g, es, rfl, hb1, hg, hrow, hel2, hfi⟩
  have X := Lib.hid hb1
  have HROW := Lib.hid hrow
  have c0 := (hb1.cell (p := ⟨b, off + i * 6, none⟩) hb).trans HC0.out
  obtain ⟨q, hq1, hq2⟩ := hfi i (Nat.zero_le _) hi
  rw [HE.out] at hq2
  simp only [Option.some.injEq] at hq2
  subst hq2
  have d0 := hrow.cell hq1
  have htw := twin_any A2 (c - i) (partI v i) w1 (by rw [HPD.out]; exact ((HRD.out w1 w.heap.size v rfl (HR.out.below hb1 (Nat.le_refl _)))).more hb1.size) HPZ.out
  rw [HPL.out] at htw
  have HTW := Lib.hid htw
  unfold TwinPost at HTW
  rw [HPL.out] at HTW
  clear hb1 hrow hfi hel2 hq1 htw
  generalize e - i = K at *
  go_wp2_with fail
  refine HTW.out.mono ?_
  rintro e2 w2 ⟨A3, c3, rfl, hl3, hnew, hb2⟩
  have Y1 := Lib.hid hl3
  have Y2 := Lib.hid hnew
  have X2 := Lib.hid hb2
  clear hl3 hnew hb2
  go_wp2
  go_ret2
  exact ⟨A3, c3, by rw [HPL.out]; rfl, by rw [HPL.out]; exact Y1.out, Y2.out.mono X.out.size, X.out.trans (X2.out.mono X.out.size)⟩
end Go.Proofs.YtnfokaecobddkaaGreatDoor
end
section
namespace Go.Proofs.YtnfokaecobddkaaGreatDoor
open Go.RowKit
set_option linter.unusedSimpArgs false
set_option linter.unusedVariables false
theorem given_any (s : ByteArray) (w : World) : Calls Tryz.prog 75 #[.string s] w fun e w' => e = .returned (.bool (givenB s)) ∧ w = w' := by
  have HG : Box (givenB s = ((s.toList == [104, 116, 116, 112, 58, 47, 47, 119, 119, 119, 46, 119, 51, 46, 111, 114, 103, 47, 88, 77, 76, 47, 49, 57, 57, 56, 47, 110, 97, 109, 101, 115, 112, 97, 99, 101]) || (s.toList == [104, 116, 116, 112, 58, 47, 47, 119, 119, 119, 46, 119, 51, 46, 111, 114, 103, 47, 50, 48, 48, 48, 47, 120, 109, 108, 110, 115, 47]))) := ⟨rfl⟩
  generalize givenB s = r at *
  go_enter Tryz.func75, Tryz.ntmps75
  go_wp2
  all_goals
    go_ret
    exact ⟨(ret_bool (by first | (rw [HG.out]; done) | (rw [HG.out]; simp_all; done))), rfl⟩
set_option maxRecDepth 10000 in
theorem space1_any (a : AttrL) (w : World) (hz : SzA 1000000000 a) : Calls Tryz.prog 73 (#[encA a] ++ #[]) w fun e w' => e = .returned (.bool (oddA a)) ∧ Below w.heap.size w w' := by
  have HX := Lib.hid ((Below.refl w.heap.size w).alloc (Nat.le_refl _) (.cells #[.string a.space, .string a.name, .string a.value] 80))
  have HG : Box (oddA a = (!nameI a.name || (a.space.toList.isEmpty && (a.name.toList == [120, 109, 108, 110, 115])) || (a.space.toList == [104, 116, 116, 112, 58, 47, 47, 119, 119, 119, 46, 119, 51, 46, 111, 114, 103, 47, 50, 48, 48, 48, 47, 120, 109, 108, 110, 115, 47]))) := ⟨rfl⟩
  have H1 := Lib.hid (fun W => name_any a.name W hz.2.1)
  generalize oddA a = r at *
  generalize nameI a.name = n1 at *
  unfold encA
  rw [Array.append_empty]
  go_enter Tryz.func73, Tryz.ntmps73
  cases n1
  all_goals
    go_wp2_with fail
    refine (H1.out _).mono ?_
    rintro e w1 ⟨rfl, rfl⟩
    go_wp2
    all_goals
      go_ret
      exact ⟨(ret_bool (by first | (rw [HG.out]; done) | (rw [HG.out]; simp_all; done))), HX.out⟩
set_option maxHeartbeats 4000000 in
set_option maxRecDepth 10000 in
theorem space2_any (n : NodeL) (A : Option Addr) (c B : Nat) (w : World) (hB : w.cell? ⟨B, 0, none⟩ = some (.func (.func 73) #[] #[])) (hr : RdA w w.heap.size A n.attrs) (hz : SzN 1000000000 n) :
    Calls Tryz.prog 74 (#[encN n A c] ++ #[.pointer (some ⟨B, 0, none⟩)]) w fun e w' => e = .returned (.bool (oddN n)) ∧ Below w.heap.size w w' := by
  have hBl := cell_lt hB
  have hne : B ≠ w.heap.size := by omega
  obtain ⟨W0, hW0⟩ : ∃ W0, W0 = w.alloc (.cells #[.int .u8 n.kind, .string n.space, .string n.name, .slice A n.attrs.length c, .string n.text, .int .i64 n.many] 69) := ⟨_, rfl⟩
  have hX0 : Below w.heap.size w W0 := by rw [hW0]; exact (Below.refl _ _).alloc (Nat.le_refl _) _
  have HX0 := Lib.hid hX0
  have HG : Box (oddN n = ((decide (n.kind = 1) && !nameI n.name) || givenB n.space || n.attrs.any oddA)) := ⟨rfl⟩
  have H1 := Lib.hid (fun W => name_any n.name W hz.2.2.1)
  have H2 := Lib.hid (fun W => given_any n.space W)
  have eg := enters_of (P := Tryz.prog) Tryz.func73 (by kernel_rfl) rfl
  have H3 := Lib.hid (hasA_any 73 #[] A c n.attrs oddA W0 ((hr.below hX0 (Nat.le_refl _)).more hX0.size) hz.2.2.2.1.1 eg
    (fun W i x hW hx => (space1_any x W (hz.2.2.2.1.2 x (List.mem_of_getElem? hx))).mono fun e w' h => ⟨h.1, hW.trans (h.2.mono hW.size)⟩))
  rw [hW0] at H3
  have HXF : ∀ w', Below W0.heap.size W0 w' → Below w.heap.size w w' := fun w' h => hX0.trans (h.mono hX0.size)
  rw [hW0] at HXF HX0
  have HXF' := Lib.hid HXF
  clear hW0 hX0 HXF eg hr
  generalize oddN n = r at *
  generalize nameI n.name = n1 at *
  generalize givenB n.space = g1 at *
  generalize n.attrs.any oddA = a1 at *
  unfold encN
  rw [List.append_toArray, List.singleton_append]
  by_cases hk : n.kind = 1
  all_goals
    try rw [hk] at H3 HX0 HXF'
    go_enter Tryz.func74, Tryz.ntmps74
    go_wp2_with (first
        | (go_at_call 26; refine (H1.out _).mono ?_; rintro e w1 ⟨rfl, rfl⟩)
        | (go_at_call 75; refine (H2.out _).mono ?_; rintro e w2 ⟨rfl, rfl⟩)
        | (go_at_call 76; refine (H3.out).mono ?_; rintro e w3 ⟨rfl, hb3⟩))
    all_goals
      go_ret
      first | exact ⟨(ret_bool (by first | (rw [HG.out]; done) | (rw [HG.out]; simp_all; done))), HX0.out⟩ | exact ⟨(ret_bool (by first | (rw [HG.out]; done) | (rw [HG.out]; simp_all; done))), HXF'.out _ hb3⟩
end Go.Proofs.YtnfokaecobddkaaGreatDoor
end
section
namespace Go.Proofs.YtnfokaecobddkaaGreatDoor
open Go.RowKit
set_option linter.unusedSimpArgs false
set_option linter.unusedVariables false
set_option maxHeartbeats 4000000 in
set_option maxRecDepth 10000 in
theorem spcheck_any (v : List NodeL) (A : Option Addr) (c : Nat) (w : World) (hc : v.length ≤ c) (hz : SzV 1000000000 v) (hr : RdV w w.heap.size A v) :
    Calls Tryz.prog 32 #[.slice A v.length c] w fun e w' => e = .returned (.int .i64 (spaceErr v)) ∧ Below w.heap.size w w' := by
  obtain ⟨W0, hW0⟩ : ∃ W0, W0 = w.alloc (.cells #[.func (.func 73) #[] #[]] 127) := ⟨_, rfl⟩
  have hX0 : Below w.heap.size w W0 := by rw [hW0]; exact (Below.refl _ _).alloc (Nat.le_refl _) _
  have hs0 : w.heap.size < W0.heap.size := by rw [hW0]; simp
  have hB : ∀ W, Below W0.heap.size W0 W → W.cell? ⟨w.heap.size, 0, none⟩ = some (.func (.func 73) #[] #[]) := fun W hW => (hW.cell hs0).trans (by rw [hW0]; simp)
  have eg := enters_of (P := Tryz.prog) Tryz.func74 (by kernel_rfl) rfl
  have hr0 := (hr.below hX0 (Nat.le_refl _)).more hX0.size
  have H := Lib.hid (hasN_any 74 #[.pointer (some ⟨w.heap.size, 0, none⟩)] A c v oddN W0 hr0 hz.1 eg
    (fun W i x A' c' hW hx hl hA => (space2_any x A' c' w.heap.size W (hB W hW) ((hA.below hW (Nat.le_refl _)).more hW.size) (hz.2 x (List.mem_of_getElem? hx))).mono fun e w' h => ⟨h.1, hW.trans (h.2.mono hW.size)⟩))
  have HT := Lib.hid (fun W (hW : Below W0.heap.size W0 W) => tcheck_any v A c W hc hz ((hr0.below hW (Nat.le_refl _)).more hW.size))
  have HX0 := Lib.hid hX0
  rw [hW0] at H HT HX0
  have HG : Box (spaceErr v = if v.any oddN then 8 else treeErr v) := ⟨by unfold spaceErr spaceI treeErr; cases v.any oddN <;> simp⟩
  clear hW0 hX0 hs0 hB eg hr0 hr hz hc
  generalize spaceErr v = r at *
  generalize treeErr v = te at *
  cases hq : v.any oddN
  all_goals
    rw [hq] at H HG
    go_enter Tryz.func32, Tryz.ntmps32
    go_wp2_with fail
    refine H.out.mono ?_
    rintro e w1 ⟨rfl, hb1⟩
    have X1 := Lib.hid hb1
    clear hb1
    go_wp2_with (first
        | (go_at_call 70; refine (HT.out _ X1.out).mono ?_; rintro e w1 ⟨rfl, hb2⟩))
    go_ret
    first | exact ⟨ret_int (by rw [HG.out]; rfl), HX0.out.trans (X1.out.mono HX0.out.size)⟩ | exact ⟨ret_int (by rw [HG.out]; rfl), (HX0.out.trans (X1.out.mono HX0.out.size)).trans (hb2.mono (Nat.le_trans HX0.out.size X1.out.size))⟩
end Go.Proofs.YtnfokaecobddkaaGreatDoor
end
section
namespace Go.Proofs.YtnfokaecobddkaaGreatDoor
open Go.RowKit
set_option linter.unusedSimpArgs false
set_option linter.unusedVariables false
end Go.Proofs.YtnfokaecobddkaaGreatDoor
end
section
namespace Go.Proofs.YtnfokaecobddkaaGreatDoor
open Go.RowKit
set_option linter.unusedSimpArgs false
set_option linter.unusedVariables false
end Go.Proofs.YtnfokaecobddkaaGreatDoor
end
