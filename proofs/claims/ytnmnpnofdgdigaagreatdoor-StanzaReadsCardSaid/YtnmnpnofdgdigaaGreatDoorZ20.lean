import Derived.Test.YtnmnpnofdgdigaaGreatDoorZ19
set_option linter.all false
section
/- Layer 10 (tree): the place behind a node, the document's. -/
namespace Go.Proofs.YtnmnpnofdgdigaaGreatDoor
open Go.RowKit
set_option linter.unusedSimpArgs false
set_option linter.unusedVariables false
theorem endN_out {v : List NodeL} {i : Nat} (h : v.length ≤ i) : ∀ d, endN v d i = none
  | 0 => by rw [endN, List.getElem?_eq_none h]
  | d + 1 => by rw [endN, List.getElem?_eq_none h]
theorem endN_not {v : List NodeL} {i : Nat} {n : NodeL} (hn : v[i]? = some n) (h : nodeI n = false) : ∀ d, endN v d i = none
  | 0 => by rw [endN, hn]; simp [h]
  | d + 1 => by rw [endN, hn]; simp [h]
theorem endN_neg {v : List NodeL} {i : Nat} {n : NodeL} (hn : v[i]? = some n) (h : n.many < 0) : ∀ d, endN v d i = none
  | 0 => by
    rw [endN, hn]
    simp only
    rw [if_neg]
    rintro ⟨h1, h2⟩
    have := node_text h1 h2
    omega
  | d + 1 => by
    rw [endN, hn]
    simp only
    rw [if_neg]
    omega
theorem endN_lots {v : List NodeL} {i : Nat} {n : NodeL} (hn : v[i]? = some n) (h : (v.length : Int) < n.many) : ∀ d, endN v d i = none
  | 0 => by
    rw [endN, hn]
    simp only
    rw [if_neg]
    rintro ⟨h1, h2⟩
    have := node_text h1 h2
    omega
  | d + 1 => by
    rw [endN, hn]
    simp only
    split
    · cases hk : endK (endN v d) v n.many.toNat (i + 1) false with
      | none => rfl
      | some e =>
        have := endK_le (endN_le v d) _ _ _ _ (by have := (List.getElem?_eq_some_iff.1 hn).1; omega) hk
        omega
    · rfl
theorem endN_deep {v : List NodeL} {i : Nat} {n : NodeL} (hn : v[i]? = some n) (h : n.kind = 1) : endN v 0 i = none := by
  rw [endN, hn]
  simp only
  rw [if_neg]
  omega
theorem endN_kids {v : List NodeL} {i d : Nat} {n : NodeL} (hn : v[i]? = some n) (h : nodeI n = true) (h0 : 0 ≤ n.many) : endN v (d + 1) i = endK (endN v d) v n.many.toNat (i + 1) false := by
  rw [endN, hn]
  simp only
  rw [if_pos ⟨h, h0⟩]
theorem endN_words {v : List NodeL} {i : Nat} {n : NodeL} (hn : v[i]? = some n) (h : nodeI n = true) (h2 : n.kind = 2) : ∀ d, endN v d i = some (i + 1)
  | 0 => by rw [endN, hn]; simp [h, h2]
  | d + 1 => by rw [endN_kids hn h (by rw [node_text h h2]; exact Int.le_refl _), node_text h h2]; rfl
/-- a node of a slice, in whatever later world -/
def NdIn (w : World) (b o : Nat) (n : NodeL) (A : Option Addr) (c : Nat) : Prop :=
  ∀ W, Below w.heap.size w W → W.cell? ⟨b, o, none⟩ = some (.int .u8 n.kind) ∧ W.cell? ⟨b, o + 1, none⟩ = some (.string n.space) ∧ W.cell? ⟨b, o + 2, none⟩ = some (.string n.name) ∧ W.cell? ⟨b, o + 3, none⟩ = some (.slice A n.attrs.length c) ∧
    W.cell? ⟨b, o + 4, none⟩ = some (.string n.text) ∧ W.cell? ⟨b, o + 5, none⟩ = some (.int .i64 n.many) ∧ RdA W W.heap.size A n.attrs
theorem nd_in {w : World} {B b o : Nat} {n : NodeL} (h : NdAt w B b o n) (hb : b < B) (hB : B ≤ w.heap.size) : ∃ A c, NdIn w b o n A c ∧ n.attrs.length ≤ c := by
  obtain ⟨h0, h1, h2, ⟨A, c, h3, hl, hA⟩, h4, h5⟩ := h
  have hb' : b < w.heap.size := by omega
  refine ⟨A, c, fun W hW => ?_, hl⟩
  exact ⟨(hW.cell (p := ⟨b, o, none⟩) hb').trans h0, (hW.cell (p := ⟨b, o + 1, none⟩) hb').trans h1, (hW.cell (p := ⟨b, o + 2, none⟩) hb').trans h2, (hW.cell (p := ⟨b, o + 3, none⟩) hb').trans h3,
    (hW.cell (p := ⟨b, o + 4, none⟩) hb').trans h4, (hW.cell (p := ⟨b, o + 5, none⟩) hb').trans h5, (hA.below hW hB).more (Nat.le_trans hB hW.size)⟩
theorem szv_get {v : List NodeL} {M : Nat} (h : SzV M v) {k : Nat} {x : NodeL} (hx : v[k]? = some x) : SzN M x := h.2 x (List.mem_of_getElem? hx)
def BehindPost (v : List NodeL) (d i : Nat) (w : World) (e : Ending) (w' : World) : Prop := e = .returned (.int .i64 (placeI (endN v d i))) ∧ Below w.heap.size w w'
theorem BehindPost.no {v : List NodeL} {d i : Nat} {w w' : World} (h : endN v d i = none) (hb : Below w.heap.size w w') : BehindPost v d i w (.returned (.int .i64 (-1))) w' := ⟨by rw [h]; rfl, hb⟩
theorem endK_bad {f : Nat → Option Nat} {v : List NodeL} {k nx : Nat} {t : Bool} (h : f nx = none) : endK f v (k + 1) nx t = none := by
  rw [endK]
  split
  · rfl
  · split
    · rfl
    · rw [h]
theorem endK_two {f : Nat → Option Nat} {v : List NodeL} {k nx : Nat} {m : NodeL} (hm : v[nx]? = some m) (h : m.kind = 2) : endK f v (k + 1) nx true = none := by
  rw [endK, hm]
  simp [h]
theorem endK_go {f : Nat → Option Nat} {v : List NodeL} {k nx e : Nat} {t : Bool} {m : NodeL} (hm : v[nx]? = some m) (ht : (t && decide (m.kind = 2)) = false) (h : f nx = some e) : endK f v (k + 1) nx t = endK f v k e (decide (m.kind = 2)) := by
  rw [endK, hm]
  simp only
  rw [if_neg (by rw [ht]; simp), h]
theorem endN_at {v : List NodeL} {i e : Nat} : ∀ {d : Nat}, endN v d i = some e → i < v.length
  | d, h => by have := endN_le v d i e h; omega
set_option maxHeartbeats 4000000 in
set_option maxRecDepth 10000 in
theorem refbehind_bad (v : List NodeL) (A : Option Addr) (c : Nat) (hc : v.length ≤ c) (hz : SzV 1000000000 v) (d : Nat) (L : Int) (i : Nat) (w : World) (hL0 : 1 ≤ L ∧ L ≤ 13) (hi : i ≤ v.length) (hr : RdV w w.heap.size A v) (hbad : (i = v.length ∨ ∃ n, v[i]? = some n ∧ (nodeI n = false ∨ n.many < 0 ∨ (v.length : Int) < n.many))) :
    Calls Tryz.prog 138 #[.slice A v.length c, .int .i64 (i : Int), .int .i64 L] w (BehindPost v d i w) := by
  have HZ := Lib.hid hz
  have HR := Lib.hid hr
  have hlen := hz.1
  clear hz hr
  have HBAD := Lib.hid hbad
  clear hbad
  by_cases hlt : i < v.length
  · obtain ⟨n, hn⟩ : ∃ n, v[i]? = some n := ⟨_, List.getElem?_eq_getElem hlt⟩
    have HN := Lib.hid hn
    obtain ⟨b, off, rfl, hb, hcc⟩ := HR.out (by omega)
    obtain ⟨A', c', hND, hac⟩ := nd_in (hcc i n hn) hb (Nat.le_refl _)
    have hzn := szv_get HZ.out hn
    have HM := Lib.hid (fun W (hW : Below w.heap.size w W) => refmay_node n A' c' W (hND W hW).2.2.2.2.2.2 hac hzn)
    have HD0 := Lib.hid (fun W hW => (hND W hW).1)
    have HD5 := Lib.hid (fun W hW => (hND W hW).2.2.2.2.2.1)
    obtain ⟨e0, e1, e2, e3, e4, e5, -⟩ := hND w (Below.refl _ _)
    have hmr := hzn.2.2.2.2.2
    have HCC := Lib.hid hcc
    clear hn hcc hND hzn
    unfold encN at HM
    cases hnd : nodeI n with
    | false =>
      have HE : Hid (endN v d i = none) := endN_not HN.out hnd _
      rw [hnd] at HM
      clear HBAD
      generalize v.length = N at *
      go_enter Tryz.func138, Tryz.ntmps138
      go_wp2_with fail
      refine (HM.out _ (Below.refl _ _)).mono ?_
      rintro e w1 ⟨rfl, hb1⟩
      have X1 : Hid (Below w.heap.size w w1) := Lib.hid (ext_step (Below.refl w.heap.size w) (by first | exact Below.refl _ _ | exact (Below.refl _ _).alloc (Nat.le_refl _) _ | exact ((Below.refl _ _).alloc (Nat.le_refl _) _).alloc (by simp) _ | exact (((Below.refl _ _).alloc (Nat.le_refl _) _).alloc (by simp) _).alloc (by simp) _ | exact (Below.refl _ _).drew | exact ((Below.refl _ _).alloc (Nat.le_refl _) _).drew) hb1 (Below.refl w.heap.size w).size)
      clear hb1
      try clear d0 d5
      have d0 := HD0.out _ X1.out
      have d5 := HD5.out _ X1.out
      go_wp2
      go_ret
      exact BehindPost.no HE.out X1.out
    | true =>
      rw [hnd] at HM
      by_cases hneg : n.many < 0
      · have HE : Hid (endN v d i = none) := endN_neg HN.out hneg _
        clear HBAD
        generalize v.length = N at *
        go_enter Tryz.func138, Tryz.ntmps138
        go_wp2_with fail
        refine (HM.out _ (Below.refl _ _)).mono ?_
        rintro e w1 ⟨rfl, hb1⟩
        have X1 : Hid (Below w.heap.size w w1) := Lib.hid (ext_step (Below.refl w.heap.size w) (by first | exact Below.refl _ _ | exact (Below.refl _ _).alloc (Nat.le_refl _) _ | exact ((Below.refl _ _).alloc (Nat.le_refl _) _).alloc (by simp) _ | exact (((Below.refl _ _).alloc (Nat.le_refl _) _).alloc (by simp) _).alloc (by simp) _ | exact (Below.refl _ _).drew | exact ((Below.refl _ _).alloc (Nat.le_refl _) _).drew) hb1 (Below.refl w.heap.size w).size)
        clear hb1
        try clear d0 d5
        have d0 := HD0.out _ X1.out
        have d5 := HD5.out _ X1.out
        go_wp2
        go_ret
        exact BehindPost.no HE.out X1.out
      · have hlots : (v.length : Int) < n.many := by
          rcases HBAD.out with h | ⟨n', h1, h⟩
          · omega
          · rw [HN.out] at h1
            simp only [Option.some.injEq] at h1
            subst h1
            rcases h with h | h | h
            · rw [hnd] at h; cases h
            · omega
            · exact h
        have HE : Hid (endN v d i = none) := endN_lots HN.out hlots _
        clear HBAD
        generalize v.length = N at *
        go_enter Tryz.func138, Tryz.ntmps138
        go_wp2_with fail
        refine (HM.out _ (Below.refl _ _)).mono ?_
        rintro e w1 ⟨rfl, hb1⟩
        have X1 : Hid (Below w.heap.size w w1) := Lib.hid (ext_step (Below.refl w.heap.size w) (by first | exact Below.refl _ _ | exact (Below.refl _ _).alloc (Nat.le_refl _) _ | exact ((Below.refl _ _).alloc (Nat.le_refl _) _).alloc (by simp) _ | exact (((Below.refl _ _).alloc (Nat.le_refl _) _).alloc (by simp) _).alloc (by simp) _ | exact (Below.refl _ _).drew | exact ((Below.refl _ _).alloc (Nat.le_refl _) _).drew) hb1 (Below.refl w.heap.size w).size)
        clear hb1
        try clear d0 d5
        have d0 := HD0.out _ X1.out
        have d5 := HD5.out _ X1.out
        go_wp2
        go_ret
        exact BehindPost.no HE.out X1.out
  · have HE : Hid (endN v d i = none) := endN_out (by omega) _
    obtain rfl : i = v.length := by omega
    clear HBAD
    generalize v.length = N at *
    go_enter Tryz.func138, Tryz.ntmps138
    go_wp2
    go_ret
    exact BehindPost.no HE.out (Below.refl _ _)
set_option maxHeartbeats 4000000 in
set_option maxRecDepth 10000 in
theorem refbehind_base (v : List NodeL) (A : Option Addr) (c : Nat) (hc : v.length ≤ c) (hz : SzV 1000000000 v) (L : Int) (i : Nat) (w : World) (hL : L = 13) (hr : RdV w w.heap.size A v) (hg : ∃ n, v[i]? = some n ∧ nodeI n = true ∧ 0 ≤ n.many ∧ n.many ≤ v.length) :
    Calls Tryz.prog 138 #[.slice A v.length c, .int .i64 (i : Int), .int .i64 L] w (BehindPost v 0 i w) := by
  have HZ := Lib.hid hz
  have HR := Lib.hid hr
  have hlen := hz.1
  clear hz hr
  obtain ⟨n, hn, hnd, hneg0, hlots0⟩ := hg
  have hlt : i < v.length := (List.getElem?_eq_some_iff.1 hn).1
  have HN := Lib.hid hn
  obtain ⟨b, off, rfl, hb, hcc⟩ := HR.out (by omega)
  obtain ⟨A', c', hND, hac⟩ := nd_in (hcc i n hn) hb (Nat.le_refl _)
  have hzn := szv_get HZ.out hn
  have HM := Lib.hid (fun W (hW : Below w.heap.size w W) => refmay_node n A' c' W (hND W hW).2.2.2.2.2.2 hac hzn)
  have HD0 := Lib.hid (fun W hW => (hND W hW).1)
  have HD5 := Lib.hid (fun W hW => (hND W hW).2.2.2.2.2.1)
  obtain ⟨e0, e1, e2, e3, e4, e5, -⟩ := hND w (Below.refl _ _)
  have hmr := hzn.2.2.2.2.2
  have HCC := Lib.hid hcc
  clear hn hcc hND hzn
  unfold encN at HM
  have hneg : ¬ n.many < 0 := by omega
  have hlots : ¬ (v.length : Int) < n.many := by omega
  rw [hnd] at HM
  rcases node_kind hnd with hk | hk
  · have HE : Hid (endN v 0 i = none) := endN_deep HN.out hk
    rw [hk] at HD0 HM e0
    have h12 : (12 : Int) < L := by omega
    clear hL
    generalize v.length = N at *
    go_enter Tryz.func138, Tryz.ntmps138
    go_wp2_with fail
    refine (HM.out _ (Below.refl _ _)).mono ?_
    rintro e w1 ⟨rfl, hb1⟩
    have X1 : Hid (Below w.heap.size w w1) := Lib.hid (ext_step (Below.refl w.heap.size w) (by first | exact Below.refl _ _ | exact (Below.refl _ _).alloc (Nat.le_refl _) _ | exact ((Below.refl _ _).alloc (Nat.le_refl _) _).alloc (by simp) _ | exact (((Below.refl _ _).alloc (Nat.le_refl _) _).alloc (by simp) _).alloc (by simp) _ | exact (Below.refl _ _).drew | exact ((Below.refl _ _).alloc (Nat.le_refl _) _).drew) hb1 (Below.refl w.heap.size w).size)
    clear hb1
    try clear d0 d5
    have d0 := HD0.out _ X1.out
    have d5 := HD5.out _ X1.out
    go_wp2
    go_ret
    exact BehindPost.no HE.out X1.out
  · have HE : Hid (endN v 0 i = some (i + 1)) := endN_words HN.out hnd hk 0
    have hm0 := node_text hnd hk
    rw [hk] at HD0 HM e0
    rw [hm0] at HD5 HM e5
    clear hL
    generalize v.length = N at *
    go_enter Tryz.func138, Tryz.ntmps138
    go_wp2_with fail
    refine (HM.out _ (Below.refl _ _)).mono ?_
    rintro e w1 ⟨rfl, hb1⟩
    have X1 : Hid (Below w.heap.size w w1) := Lib.hid (ext_step (Below.refl w.heap.size w) (by first | exact Below.refl _ _ | exact (Below.refl _ _).alloc (Nat.le_refl _) _ | exact ((Below.refl _ _).alloc (Nat.le_refl _) _).alloc (by simp) _ | exact (((Below.refl _ _).alloc (Nat.le_refl _) _).alloc (by simp) _).alloc (by simp) _ | exact (Below.refl _ _).drew | exact ((Below.refl _ _).alloc (Nat.le_refl _) _).drew) hb1 (Below.refl w.heap.size w).size)
    clear hb1
    try clear d0 d5
    have d0 := HD0.out _ X1.out
    have d5 := HD5.out _ X1.out
    go_wp2
    go_loopw [7, 8, 9, 10] (fun s7 _ s9 _ wr => s7 = .int .i64 ((i : Int) + 1) ∧ s9 = .int .i64 0 ∧ Hid (Below w.heap.size w wr)) (fun _ _ _ _ _ => 0)
    case atStart => exact ⟨by go_num, rfl, X1⟩
    case round =>
      obtain ⟨rfl, rfl, HB⟩ := hrel
      have d5 := HD5.out _ HB.out
      go_wp2
      go_ret
      exact ⟨by rw [HE.out]; rfl, HB.out⟩
set_option maxHeartbeats 4000000 in
set_option maxRecDepth 10000 in
theorem refbehind_step (v : List NodeL) (A : Option Addr) (c : Nat) (hc : v.length ≤ c) (hz : SzV 1000000000 v) (d : Nat) (ih : ∀ (L : Int) (i : Nat) (w : World), L + d = 13 → i ≤ v.length → RdV w w.heap.size A v → Calls Tryz.prog 138 #[.slice A v.length c, .int .i64 (i : Int), .int .i64 L] w (BehindPost v d i w))
    (L : Int) (i : Nat) (w : World) (hL : L + (d + 1 : Nat) = 13) (hd : d + 1 ≤ 12) (hr : RdV w w.heap.size A v) (hg : ∃ n, v[i]? = some n ∧ nodeI n = true ∧ 0 ≤ n.many ∧ n.many ≤ v.length) :
    Calls Tryz.prog 138 #[.slice A v.length c, .int .i64 (i : Int), .int .i64 L] w (BehindPost v (d + 1) i w) := by
  have HIH := Lib.hid ih
  clear ih
  have HZ := Lib.hid hz
  have HR := Lib.hid hr
  have hlen := hz.1
  clear hz hr
  have hL12 : ¬ 12 < L := by omega
  obtain ⟨n, hn, hnd, hneg0, hlots0⟩ := hg
  have hlt : i < v.length := (List.getElem?_eq_some_iff.1 hn).1
  have HN := Lib.hid hn
  obtain ⟨b, off, rfl, hb, hcc⟩ := HR.out (by omega)
  obtain ⟨A', c', hND, hac⟩ := nd_in (hcc i n hn) hb (Nat.le_refl _)
  have hzn := szv_get HZ.out hn
  have HM := Lib.hid (fun W (hW : Below w.heap.size w W) => refmay_node n A' c' W (hND W hW).2.2.2.2.2.2 hac hzn)
  have HD0 := Lib.hid (fun W hW => (hND W hW).1)
  have HD5 := Lib.hid (fun W hW => (hND W hW).2.2.2.2.2.1)
  obtain ⟨e0, e1, e2, e3, e4, e5, -⟩ := hND w (Below.refl _ _)
  have hmr := hzn.2.2.2.2.2
  have HCC := Lib.hid hcc
  clear hn hcc hND hzn
  unfold encN at HM
  have hneg : ¬ n.many < 0 := by omega
  have hlots : ¬ (v.length : Int) < n.many := by omega
  rw [hnd] at HM
  have HE : Hid (endN v (d + 1) i = endK (endN v d) v n.many.toNat (i + 1) false) := endN_kids HN.out hnd (by omega)
  obtain ⟨m, hm⟩ : ∃ m : Nat, n.many = (m : Int) := ⟨n.many.toNat, by omega⟩
  rw [hm] at HD5 HE hlots HM e5
  rw [show ((m : Int)).toNat = m by omega] at HE
  have HLE := Lib.hid (fun nx e (h : endN v d nx = some e) => (endN_le v d nx e h))
  have hmn : ¬ (m : Int) < 0 := by omega
  have hkk := node_kind hnd
  clear hneg0 hlots0 hneg hmr
  have hge : ¬ v.length ≤ i := by omega
  have hml : ¬ v.length < m := by omega
  have hdl : decide (v.length ≤ i) = false := decide_eq_false hge
  have hdm : decide (v.length < m) = false := decide_eq_false hml
  have hdL : decide (12 < L) = false := decide_eq_false hL12
  rcases hkk with hk | hk
  all_goals
    rw [hk] at HD0 HM e0
    go_enter Tryz.func138, Tryz.ntmps138
    go_wp2_with fail
    refine (HM.out _ (Below.refl _ _)).mono ?_
    rintro e w1 ⟨rfl, hb1⟩
    have X1 : Hid (Below w.heap.size w w1) := Lib.hid (ext_step (Below.refl w.heap.size w) (by first | exact Below.refl _ _ | exact (Below.refl _ _).alloc (Nat.le_refl _) _ | exact ((Below.refl _ _).alloc (Nat.le_refl _) _).alloc (by simp) _ | exact (((Below.refl _ _).alloc (Nat.le_refl _) _).alloc (by simp) _).alloc (by simp) _ | exact (Below.refl _ _).drew | exact ((Below.refl _ _).alloc (Nat.le_refl _) _).drew) hb1 (Below.refl w.heap.size w).size)
    clear hb1
    try clear d0 d5
    have d0 := HD0.out _ X1.out
    have d5 := HD5.out _ X1.out
    go_wp2
    go_loopw [7, 8, 9, 10] (fun s7 s8 s9 _ wr => ∃ (j nx : Nat) (t : Bool), j ≤ m ∧ nx ≤ v.length ∧ s7 = .int .i64 nx ∧ s8 = .bool t ∧ s9 = .int .i64 j ∧ Hid (Below w.heap.size w wr) ∧ Hid (endN v (d + 1) i = endK (endN v d) v (m - j) nx t)) (fun _ _ s9 _ _ => m - (intOf s9).toNat)
    case atStart => exact ⟨0, i + 1, false, by omega, by omega, by go_num, rfl, rfl, X1, HE⟩
    case round =>
      obtain ⟨j, nx, t, hj, hnx, rfl, rfl, rfl, HB, HK⟩ := hrel
      clear d0 d5
      have d5 := HD5.out _ HB.out
      by_cases hjm : j < m
      · have hmj : m - j = (m - (j + 1)) + 1 := by omega
        rw [hmj] at HK
        have HCALL := Lib.hid (HIH.out (L + 1) nx wr (by omega) hnx ((HR.out.below HB.out (Nat.le_refl _)).more HB.out.size))
        unfold BehindPost at HCALL
        have hsz := HB.out.size
        clear hmj
        cases hf : endN v d nx with
        | none =>
          have HE2 : Hid (endN v (d + 1) i = none) := Lib.hid (by rw [HK.out]; exact endK_bad hf)
          rw [hf] at HCALL
          unfold placeI at HCALL
          generalize v.length = N at *
          go_wp2_with fail
          refine HCALL.out.mono ?_
          rintro e w2 ⟨rfl, hb2⟩
          have X2 := Lib.hid (HB.out.trans (hb2.mono hsz))
          clear hb2
          go_wp2
          go_ret
          exact BehindPost.no HE2.out X2.out
        | some e =>
          have hel := HLE.out nx e hf
          obtain ⟨hel1, hel2⟩ := hel
          have hnl := endN_at hf
          have hne : ¬ (e : Int) < 0 := by omega
          obtain ⟨x, hx⟩ : ∃ x, v[nx]? = some x := ⟨_, List.getElem?_eq_getElem hnl⟩
          have HX := Lib.hid hx
          have HDK : Hid (∀ W, Below w.heap.size w W → W.cell? ⟨b, off + nx * 6, none⟩ = some (.int .u8 x.kind)) := Lib.hid (fun W hW => (hW.cell (p := ⟨b, off + nx * 6, none⟩) hb).trans (HCC.out nx x hx).1)
          have HF := Lib.hid hf
          rw [hf] at HCALL
          unfold placeI at HCALL
          clear hx hf
          by_cases hk2 : x.kind = 2
          · rw [hk2] at HDK
            cases t with
            | true =>
              have HE2 : Hid (endN v (d + 1) i = none) := Lib.hid (by rw [HK.out]; exact endK_two HX.out hk2)
              generalize v.length = N at *
              go_wp2_with fail
              refine HCALL.out.mono ?_
              rintro e w2 ⟨rfl, hb2⟩
              have X2 := Lib.hid (HB.out.trans (hb2.mono hsz))
              clear hb2
              try clear d5 dk
              have d5 := HD5.out _ X2.out
              have dk := HDK.out _ X2.out
              go_wp2
              go_ret
              exact BehindPost.no HE2.out X2.out
            | false =>
              have HE2 : Hid (endN v (d + 1) i = endK (endN v d) v (m - (j + 1)) e true) := Lib.hid (by rw [HK.out, endK_go HX.out rfl HF.out, hk2]; rfl)
              generalize v.length = N at *
              go_wp2_with fail
              refine HCALL.out.mono ?_
              rintro e1 w2 ⟨rfl, hb2⟩
              have X2 := Lib.hid (HB.out.trans (hb2.mono hsz))
              clear hb2
              try clear d5 dk
              have d5 := HD5.out _ X2.out
              have dk := HDK.out _ X2.out
              go_wp2
              go_roundw
              case rel => exact ⟨j + 1, e, true, by omega, hel2, rfl, rfl, by go_num, X2, HE2⟩
              case measure => simp [intOf]; omega
          · have hk3 : (x.kind == 2) = false := by rw [beq_eq_false_iff_ne]; exact hk2
            have HE2 : Hid (endN v (d + 1) i = endK (endN v d) v (m - (j + 1)) e false) := Lib.hid (by rw [HK.out, endK_go HX.out (by rw [decide_eq_false hk2, Bool.and_false]) HF.out, decide_eq_false hk2])
            cases t
            all_goals
              generalize v.length = N at *
              go_wp2_with fail
              refine HCALL.out.mono ?_
              rintro e1 w2 ⟨rfl, hb2⟩
              have X2 := Lib.hid (HB.out.trans (hb2.mono hsz))
              clear hb2
              try clear d5 dk
              have d5 := HD5.out _ X2.out
              have dk := HDK.out _ X2.out
              go_wp2
              go_roundw
              case rel => exact ⟨j + 1, e, false, by omega, hel2, rfl, rfl, by go_num, X2, HE2⟩
              case measure => simp [intOf]; omega
      · obtain rfl : j = m := by omega
        have HE2 : Hid (endN v (d + 1) i = some nx) := Lib.hid (by rw [HK.out, Nat.sub_self]; rfl)
        generalize v.length = N at *
        go_wp2
        go_ret
        exact ⟨by rw [HE2.out]; rfl, HB.out⟩
theorem refbehind_any (v : List NodeL) (A : Option Addr) (c : Nat) (hc : v.length ≤ c) (hz : SzV 1000000000 v) : ∀ (d : Nat) (L : Int) (i : Nat) (w : World), d ≤ 12 → L + d = 13 → i ≤ v.length → RdV w w.heap.size A v →
    Calls Tryz.prog 138 #[.slice A v.length c, .int .i64 (i : Int), .int .i64 L] w (BehindPost v d i w) := by
  have key : ∀ i : Nat, i ≤ v.length → (i = v.length ∨ ∃ n, v[i]? = some n ∧ (nodeI n = false ∨ n.many < 0 ∨ (v.length : Int) < n.many)) ∨ (∃ n, v[i]? = some n ∧ nodeI n = true ∧ 0 ≤ n.many ∧ n.many ≤ v.length) := by
    intro i hi
    by_cases h : i = v.length
    · exact .inl (.inl h)
    · have hn : v[i]? = some (v[i]'(by omega)) := List.getElem?_eq_getElem (by omega)
      generalize v[i]'(by omega) = n at hn
      cases hnd : nodeI n with
      | false => exact .inl (.inr ⟨n, hn, .inl hnd⟩)
      | true =>
        by_cases h1 : n.many < 0
        · exact .inl (.inr ⟨n, hn, .inr (.inl h1)⟩)
        · by_cases h2 : (v.length : Int) < n.many
          · exact .inl (.inr ⟨n, hn, .inr (.inr h2)⟩)
          · exact .inr ⟨n, hn, hnd, by omega, by omega⟩
  intro d
  induction d with
  | zero =>
    intro L i w hd hL hi hr
    rcases key i hi with h | h
    · exact refbehind_bad v A c hc hz 0 L i w (by omega) hi hr h
    · exact refbehind_base v A c hc hz L i w (by omega) hr h
  | succ d ih =>
    intro L i w hd hL hi hr
    rcases key i hi with h | h
    · exact refbehind_bad v A c hc hz (d + 1) L i w (by omega) hi hr h
    · exact refbehind_step v A c hc hz d (fun L i w h1 h2 h3 => ih L i w (by omega) h1 h2 h3) L i w hL hd hr h
end Go.Proofs.YtnmnpnofdgdigaaGreatDoor
end
