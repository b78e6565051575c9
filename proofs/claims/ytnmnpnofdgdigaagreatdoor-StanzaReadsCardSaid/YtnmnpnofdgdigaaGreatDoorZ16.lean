import Derived.Test.YtnmnpnofdgdigaaGreatDoorZ15
import Derived.Test.YtnmnpnofdgdigaaGreatDoorZ09
import Derived.Test.YtnmnpnofdgdigaaGreatDoorZ10
import Derived.Test.YtnmnpnofdgdigaaGreatDoorZ13
import Derived.Test.YtnmnpnofdgdigaaGreatDoorZ11
set_option linter.all false
section
/- Layer 22 (stanza): texts that are an address's, the program's and the document's. -/
namespace Go.Proofs.YtnmnpnofdgdigaaGreatDoor
open Go.RowKit
set_option linter.unusedSimpArgs false
set_option linter.unusedVariables false
def addressI (s : ByteArray) : Bool := isEmp s || ((parseI s).isSome && eqS (textJ (parsedJ s)) s)
theorem parse_jid (s : ByteArray) : jidI (parsedJ s) = (parseI s).isSome := by
  unfold parsedJ
  have h0 : jidI emJ = false := by rfl
  unfold parseI
  split
  · rw [Option.getD_none, h0]; rfl
  · rename_i h
    rw [Option.getD_some]
    simp only [Bool.or_eq_true, Bool.not_eq_true', not_or, Bool.not_eq_false] at h
    rw [h.2]; rfl
theorem parsed_sz (s : ByteArray) : (parsedJ s).loc.size ≤ s.size ∧ (parsedJ s).dom.size ≤ s.size ∧ (parsedJ s).res.size ≤ s.size := by
  have h0 : emB.size = 0 := rfl
  have h1 := readJ_sz s
  unfold parsedJ parseI
  split
  · rw [Option.getD_none]
    exact ⟨by show emB.size ≤ _; omega, by show emB.size ≤ _; omega, by show emB.size ≤ _; omega⟩
  · rw [Option.getD_some]; exact h1
set_option maxHeartbeats 4000000 in
set_option maxRecDepth 10000 in
theorem address_any (s : ByteArray) (w : World) (hs : s.size ≤ 1000000000) (hg : Glb w) : Calls Tryz.prog 61 #[.string s] w fun e w' => e = .returned (.bool (addressI s)) ∧ Below w.heap.size w w' := by
  have hz := parsed_sz s
  have H1 := Lib.hid (jparse_any s w hs hg)
  have H2 := Lib.hid (fun W (hW : Glb W) => write_any (parsedJ s) W ⟨by omega, by omega, by omega⟩ hW)
  unfold ParsePost at H1
  have HA : Box (addressI s = (isEmp s || ((parseI s).isSome && eqS (textJ (parsedJ s)) s))) := ⟨rfl⟩
  have HPJ := Box.mk (parse_jid s)
  have HJE : Box (jidErr (parsedJ s) = if jidI (parsedJ s) then 0 else 8) := ⟨rfl⟩
  rw [HPJ.out] at HJE H2
  have HG := Lib.hid hg
  have el := emp_iff s
  unfold eqS at HA
  clear HPJ hz hg
  generalize addressI s = q at *
  generalize (parseI s).isSome = ok at *
  generalize parseE s = pe at *
  generalize textJ (parsedJ s) = T at *
  generalize jidErr (parsedJ s) = je at *
  generalize parsedJ s = j at *
  obtain ⟨l, d, r⟩ := j
  unfold encJ at H1 H2
  cases ok
  all_goals
    have hje := HJE.out
    try simp only [Bool.false_eq_true, if_false] at hje H2
    try simp only [if_true] at hje H2
    subst hje
    clear HJE
    cases he : isEmp s
    all_goals
      rw [he] at el HA
      clear he
      go_enter Tryz.func61, Tryz.ntmps61
      go_wp2_with fail
      refine H1.out.mono ?_
      rintro e w1 ⟨rfl, hb1⟩
      have X1 := Lib.hid hb1
      have XA : Hid (Below w.heap.size w (w1.alloc (.cells #[.string l, .string d, .string r] 102))) := hb1.alloc hb1.size _
      clear hb1
      go_wp2_with fail
      refine (H2.out _ (HG.out.below XA.out)).mono ?_
      rintro e w2 ⟨rfl, hb2⟩
      have X2 := Lib.hid (XA.out.trans (hb2.mono XA.out.size))
      clear hb2
      go_wp2
      go_ret
      exact ⟨(ret_bool (by first | (rw [HA.out]; done) | (rw [HA.out]; simp_all; done))), X2.out⟩
set_option maxHeartbeats 4000000 in
set_option maxRecDepth 10000 in
theorem refaddress_any (s : ByteArray) (w : World) (hs : s.size ≤ 1000000000) : Calls Tryz.prog 93 #[.string s] w fun e w' => e = .returned (.bool (addressI s)) ∧ Below w.heap.size w w' := by
  have hz := parsed_sz s
  have H1 := Lib.hid (refjparse_any s w hs)
  have H2 := Lib.hid (fun W => reftext_any (parsedJ s) W ⟨by omega, by omega, by omega⟩)
  unfold ParsePost at H1
  have HA : Box (addressI s = (isEmp s || ((parseI s).isSome && eqS (textJ (parsedJ s)) s))) := ⟨rfl⟩
  have HPE : Box (parseE s = if (parseI s).isSome then 0 else 190) := ⟨rfl⟩
  have el := emp_iff s
  unfold eqS at HA
  clear hz
  generalize addressI s = q at *
  generalize (parseI s).isSome = ok at *
  generalize parseE s = pe at *
  generalize textJ (parsedJ s) = T at *
  generalize parsedJ s = j at *
  obtain ⟨l, d, r⟩ := j
  unfold encJ at H1 H2
  cases ok
  all_goals
    have hpe := HPE.out
    try simp only [Bool.false_eq_true, if_false] at hpe
    try simp only [if_true] at hpe
    subst hpe
    clear HPE
    cases he : isEmp s
    all_goals
      rw [he] at el HA
      clear he
      go_enter Tryz.func93, Tryz.ntmps93
      go_wp2_with fail
      refine H1.out.mono ?_
      rintro e w1 ⟨rfl, hb1⟩
      have X1 := Lib.hid hb1
      have XA : Hid (Below w.heap.size w (w1.alloc (.cells #[.string l, .string d, .string r] 102))) := hb1.alloc hb1.size _
      clear hb1
      go_wp2_with (first
          | (go_at_call 150; refine (H2.out _).mono ?_; rintro e w1 ⟨rfl, hb2⟩))
      go_ret
      first | exact ⟨(ret_bool (by first | (rw [HA.out]; done) | (rw [HA.out]; simp_all; done))), XA.out⟩ | exact ⟨(ret_bool (by first | (rw [HA.out]; done) | (rw [HA.out]; simp_all; done))), XA.out.trans (hb2.mono XA.out.size)⟩
end Go.Proofs.YtnmnpnofdgdigaaGreatDoor
end
section
/- Plain law of stanzas (layer 22): which may be. No program here. -/
namespace Go.Proofs.YtnmnpnofdgdigaaGreatDoor
def idI (k : Int) (s : ByteArray) : Bool := decide (s.size ≤ 64) && decide (textErr s = 0) && (!decide (k = 3) || !isEmp s)
def stnI (s : StL) : Bool := typedI s.kind s.typ && idI s.kind s.id && addressI s.frm && addressI s.to && !decide (16 < s.load.length) && s.load.all spaceI
def stnErr (s : StL) : Int := if stnI s then 0 else 8
def SzW (l : List (List NodeL)) : Prop := l.length ≤ 1000000000 ∧ ∀ v ∈ l, SzV 1000000000 v
def SzS (s : StL) : Prop := (0 ≤ s.kind ∧ s.kind < 256) ∧ s.typ.size ≤ 1000000000 ∧ s.id.size ≤ 1000000000 ∧ s.frm.size ≤ 1000000000 ∧ s.to.size ≤ 1000000000 ∧ SzW s.load
end Go.Proofs.YtnmnpnofdgdigaaGreatDoor
end
section
/- Layer 22 (stanza): an attribute's value, blanks, the program's and the document's. -/
namespace Go.Proofs.YtnmnpnofdgdigaaGreatDoor
open Go.RowKit
set_option linter.unusedSimpArgs false
set_option linter.unusedVariables false
theorem ret_strA {a b : ByteArray} (h : a = b) : Ending.returned (.string a) = .returned (.string b) := by rw [h]
theorem find1_any (a : AttrL) (name : ByteArray) (B : Nat) (w : World) (hB : w.cell? ⟨B, 0, none⟩ = some (.string name)) :
    Calls Tryz.prog 81 (#[encA a] ++ #[.pointer (some ⟨B, 0, none⟩)]) w fun e w' => e = .returned (.bool (isAttr name a)) ∧ Below w.heap.size w w' := by
  have hBl := World.block_lt_of_cell? w _ hB
  have hne : B ≠ w.heap.size := by simp only [] at hBl; omega
  have HX := Lib.hid ((Below.refl w.heap.size w).alloc (Nat.le_refl _) (.cells #[.string a.space, .string a.name, .string a.value] 75))
  have HG : Box (isAttr name a = (a.space.toList.isEmpty && (a.name.toList == name.toList))) := ⟨rfl⟩
  generalize isAttr name a = r at *
  unfold encA
  rw [List.append_toArray, List.singleton_append]
  cases h0 : a.space.toList.isEmpty
  all_goals
    rw [h0] at HG
    go_enter Tryz.func81, Tryz.ntmps81
    go_wp2
    go_ret
    exact ⟨(ret_bool (by first | (rw [HG.out]; done) | (rw [HG.out]; simp_all; done))), HX.out⟩
set_option maxHeartbeats 1000000 in
set_option maxRecDepth 10000 in
theorem find_any (n : NodeL) (A : Option Addr) (c : Nat) (name : ByteArray) (w : World) (hr : RdA w w.heap.size A n.attrs) (hc : n.attrs.length ≤ c) (hn : n.attrs.length ≤ 1000000000) :
    Calls Tryz.prog 34 #[encN n A c, .string name] w fun e w' => e = .returned (.string (findI n name)) ∧ Below w.heap.size w w' := by
  obtain ⟨W0, hW0⟩ : ∃ W0, W0 = (w.alloc (.cells #[.int .u8 n.kind, .string n.space, .string n.name, .slice A n.attrs.length c, .string n.text, .int .i64 n.many] 36)).alloc (.cells #[.string name] 9) := ⟨_, rfl⟩
  have hX0 : Below w.heap.size w W0 := by rw [hW0]; exact ((Below.refl _ _).alloc (Nat.le_refl _) _).alloc (by simp) _
  have hN0 : W0.heap[w.heap.size]? = some (.cells #[.int .u8 n.kind, .string n.space, .string n.name, .slice A n.attrs.length c, .string n.text, .int .i64 n.many] 36 (0, 0)) := by
    rw [hW0]; exact heap_ext (heap_alloc_new w _) ((Below.refl _ _).alloc (Nat.le_refl _) _)
  have hB0 : W0.heap[w.heap.size + 1]? = some (.cells #[.string name] 9 (0, 0)) := by
    rw [hW0]
    have h := heap_alloc_new (w.alloc (.cells #[.int .u8 n.kind, .string n.space, .string n.name, .slice A n.attrs.length c, .string n.text, .int .i64 n.many] 36)) (.cells #[.string name] 9)
    simpa using h
  have eg := enters_of (P := Tryz.prog) Tryz.func81 (by kernel_rfl) rfl
  have H := Lib.hid (idxA_any 81 #[.pointer (some ⟨w.heap.size + 1, 0, none⟩)] A c n.attrs (isAttr name) W0 ((hr.below hX0 (Nat.le_refl _)).more hX0.size) hn eg
    (fun W i x hW hx => (find1_any x name (w.heap.size + 1) W (by simp [World.cell?, heap_ext hB0 hW])).mono fun e w' h => ⟨h.1, hW.trans (h.2.mono hW.size)⟩))
  have HF : Box (findI n name = valAt n.attrs (fstP (isAttr name) n.attrs)) := ⟨rfl⟩
  have HX0 := Lib.hid hX0
  have HC3 : Hid (∀ W, Below W0.heap.size W0 W → W.cell? ⟨w.heap.size, 3, none⟩ = some (.slice A n.attrs.length c)) := Lib.hid (fun W hW => by simp [World.cell?, heap_ext hN0 hW])
  have HR := Lib.hid hr
  rw [hW0] at H HX0 HC3
  clear hW0 hX0 hN0 hB0 eg hr
  generalize findI n name = r at *
  unfold encN
  cases ho : fstP (isAttr name) n.attrs with
  | none =>
    rw [ho] at H HF
    unfold placeI at H
    unfold valAt at HF
    clear ho
    go_enter Tryz.func34, Tryz.ntmps34
    go_wp2_with fail
    refine H.out.mono ?_
    rintro e w1 ⟨rfl, hb1⟩
    go_wp2
    go_ret
    exact ⟨ret_strA (by rw [HF.out]; rfl), HX0.out.trans (hb1.mono HX0.out.size)⟩
  | some i =>
    obtain ⟨x, hx, -, -⟩ := fstP_some ho
    have hil := (List.getElem?_eq_some_iff.1 hx).1
    rw [ho] at H HF
    unfold placeI at H
    have HF : Box (r = x.value) := ⟨by
      rw [HF.out]
      show (match n.attrs[i]? with | some a => a.value | none => emB) = _
      rw [hx]⟩
    obtain ⟨b, off, rfl, hb, hcc⟩ := HR.out (by omega)
    have hv := (hcc i x hx).2.2
    have HV := Lib.hid hv
    have hi0 : ¬ (i : Int) < 0 := by omega
    clear ho hcc hx hv
    go_enter Tryz.func34, Tryz.ntmps34
    go_wp2_with fail
    refine H.out.mono ?_
    rintro e w1 ⟨rfl, hb1⟩
    have X1 := Lib.hid (HX0.out.trans (hb1.mono HX0.out.size))
    have c3 := HC3.out _ hb1
    have cv := (X1.out.cell (p := ⟨b, off + i * 3 + 2, none⟩) hb).trans HV.out
    clear hb1
    go_wp2
    go_ret
    exact ⟨ret_strA HF.out.symm, X1.out⟩
set_option maxHeartbeats 1000000 in
set_option maxRecDepth 10000 in
theorem reffind_any (n : NodeL) (A : Option Addr) (c : Nat) (name : ByteArray) (w : World) (hr : RdA w w.heap.size A n.attrs) (hc : n.attrs.length ≤ c) (hn : n.attrs.length ≤ 1000000000) :
    Calls Tryz.prog 84 #[encN n A c, .string name] w fun e w' => e = .returned (.string (findI n name)) ∧ Below w.heap.size w w' := by
  obtain ⟨W0, hW0⟩ : ∃ W0, W0 = w.alloc (.cells #[.int .u8 n.kind, .string n.space, .string n.name, .slice A n.attrs.length c, .string n.text, .int .i64 n.many] 36) := ⟨_, rfl⟩
  have hX0 : Below w.heap.size w W0 := by rw [hW0]; exact (Below.refl _ _).alloc (Nat.le_refl _) _
  have HX0 := Lib.hid hX0
  have hN0 : W0.heap[w.heap.size]? = some (.cells #[.int .u8 n.kind, .string n.space, .string n.name, .slice A n.attrs.length c, .string n.text, .int .i64 n.many] 36 (0, 0)) := by
    rw [hW0]; exact heap_alloc_new w _
  have c3 : W0.cell? ⟨w.heap.size, 3, none⟩ = some (.slice A n.attrs.length c) := by simp [World.cell?, hN0]
  have HC3 := Lib.hid c3
  have HR := Lib.hid hr
  have HF : Box (findI n name = valAt n.attrs (fstP (isAttr name) n.attrs)) := ⟨rfl⟩
  have HWE := Lib.hid hW0
  clear hW0 hX0 hN0 hr c3
  generalize findI n name = r at *
  unfold encN
  go_enter Tryz.func84, Tryz.ntmps84
  go_wp2_with fail
  rw [← HWE.out]
  go_loop [5] (fun s5 => ∃ k : Nat, k ≤ n.attrs.length ∧ s5 = .int .i64 k ∧ Hid (∀ (j : Nat) (y : AttrL), j < k → n.attrs[j]? = some y → isAttr name y = false)) (fun s5 => n.attrs.length - (intOf s5).toNat)
  case atStart => exact ⟨0, Nat.zero_le _, rfl, Lib.hid (fun j y hj => absurd hj (by omega))⟩
  case round =>
    obtain ⟨k, hk, rfl, HN⟩ := hrel
    have c3 := HC3.out
    by_cases hlt : k < n.attrs.length
    · obtain ⟨x, hx⟩ : ∃ x, n.attrs[k]? = some x := ⟨_, List.getElem?_eq_getElem hlt⟩
      have HX := Lib.hid hx
      obtain ⟨b, off, rfl, hb, hcc⟩ := HR.out (by omega)
      obtain ⟨a0, a1, a2⟩ := (hcc k x hx).keep (w' := W0) hb (fun q hq => HX0.out.cell hq)
      have hia : isAttr name x = (x.space.toList.isEmpty && (x.name.toList == name.toList)) := rfl
      clear hx hcc
      cases hq : isAttr name x with
      | true =>
        have HFX : Box (r = x.value) := ⟨by
          rw [HF.out, fstP_is HX.out hq HN.out]
          show (match n.attrs[k]? with | some a => a.value | none => emB) = _
          rw [HX.out]⟩
        rw [hq] at hia
        have hia' := hia.symm
        simp only [Bool.and_eq_true] at hia'
        obtain ⟨i1, i2⟩ := hia'
        clear hia hq
        go_wp2
        go_ret
        exact ⟨ret_strA HFX.out.symm, HX0.out⟩
      | false =>
        have HN2 : Hid (∀ (j : Nat) (y : AttrL), j < k + 1 → n.attrs[j]? = some y → isAttr name y = false) := Lib.hid (fun j y hj hy => by
          rcases Nat.lt_or_ge j k with h1 | h1
          · exact HN.out j y h1 hy
          · obtain rfl : j = k := by omega
            rw [HX.out] at hy
            simp only [Option.some.injEq] at hy
            rw [← hy]; exact hq)
        rw [hq] at hia
        have hia' := hia.symm
        simp only [Bool.and_eq_false_iff] at hia'
        clear hia hq
        cases h0 : x.space.toList.isEmpty
        · go_wp2
          go_round
          case rel => exact ⟨k + 1, by omega, by go_num, HN2⟩
          case measure => simp [intOf]; omega
        · have i2 : (x.name.toList == name.toList) = false := by
            rcases hia' with h | h
            · rw [h0] at h; cases h
            · exact h
          clear hia'
          go_wp2
          go_round
          case rel => exact ⟨k + 1, by omega, by go_num, HN2⟩
          case measure => simp [intOf]; omega
    · have HFX : Box (r = emB) := ⟨by
        rw [HF.out, fstP_not (fun j y hy => HN.out j y (by have := (List.getElem?_eq_some_iff.1 hy).1; omega) hy)]
        rfl⟩
      obtain rfl : k = n.attrs.length := by omega
      go_wp2
      go_ret
      exact ⟨ret_strA (by rw [HFX.out]; rfl), HX0.out⟩
/-! ### blanks -/
theorem blank_all : ∀ n : Fin 256, blankL.contains n.val.toUInt8 = blankB n.val := by decide +kernel
theorem blank_at (s : ByteArray) (i : Nat) : blankL.contains (s.get! i) = blankB (b_at s i) := by
  have h := blank_all ⟨b_at s i, b_lt s i⟩
  rwa [at_u8] at h
set_option maxRecDepth 10000 in
theorem refblank_any (s : ByteArray) (w : World) (hs : s.size ≤ 1000000000) : Calls Tryz.prog 141 #[.string s] w fun e w' => e = .returned (.bool (blankI s)) ∧ w = w' := by
  have HNO := Lib.hid (fun i hi h => setAll_no (cs := blankL) (s := s) (i := i) hi h)
  have HAI := Lib.hid (setAll_iff blankL s).2
  have HB : Box (blankI s = setAll blankL s) := ⟨rfl⟩
  generalize blankI s = r at *
  go_enter Tryz.func141, Tryz.ntmps141
  go_wp2
  go_loop [3] (fun s3 => ∃ k : Nat, k ≤ s.size ∧ s3 = .int .i64 k ∧ Hid (∀ i, i < k → blankL.contains (s.get! i) = true)) (fun s3 => s.size - (intOf s3).toNat)
  case atStart => exact ⟨0, Nat.zero_le _, rfl, Lib.hid (fun i hi => absurd hi (by omega))⟩
  case round =>
    obtain ⟨k, hk, rfl, HN⟩ := hrel
    by_cases hlt : k < s.size
    · have hx := at_eq s k hlt
      have hxl : b_at s k < 256 := b_lt s k
      have HK := Box.mk (blank_at s k)
      have HNX : Hid (blankL.contains (s.get! k) = true → ∀ i, i < k + 1 → blankL.contains (s.get! i) = true) := Lib.hid (fun h i hi => by
        rcases Nat.lt_or_ge i k with h1 | h1
        · exact HN.out i h1
        · obtain rfl : i = k := by omega
          exact h)
      by_cases hb : b_at s k = 32 ∨ b_at s k = 9 ∨ b_at s k = 10 ∨ b_at s k = 13
      · have HY := Lib.hid (HNX.out (by rw [HK.out]; unfold blankB; exact decide_eq_true hb))
        generalize b_at s k = x at *
        clear HK HNX
        rcases hb with rfl | rfl | rfl | rfl
        all_goals
          go_wp2
          go_round
          case rel => exact ⟨k + 1, by omega, by go_num, HY⟩
          case measure => simp [intOf]; omega
      · have HRF : Box (r = false) := ⟨by rw [HB.out, HNO.out k hlt (by rw [HK.out]; unfold blankB; exact decide_eq_false hb)]⟩
        have q1 : ((b_at s k : Int) != 32) = true := by rw [bne_iff_ne]; omega
        have q2 : ((b_at s k : Int) != 9) = true := by rw [bne_iff_ne]; omega
        have q3 : ((b_at s k : Int) != 10) = true := by rw [bne_iff_ne]; omega
        have q4 : ((b_at s k : Int) != 13) = true := by rw [bne_iff_ne]; omega
        clear HK HNX hb
        generalize b_at s k = x at *
        go_wp2
        go_ret
        exact ⟨ret_bool HRF.out.symm, rfl⟩
    · obtain rfl : k = s.size := by omega
      have HRT : Box (r = true) := ⟨by rw [HB.out]; exact HAI.out HN.out⟩
      go_wp2
      go_ret
      exact ⟨ret_bool HRT.out.symm, rfl⟩
end Go.Proofs.YtnmnpnofdgdigaaGreatDoor
end
section
/- Layer 22 (stanza): kinds and types, the program's and the document's. -/
namespace Go.Proofs.YtnmnpnofdgdigaaGreatDoor
open Go.RowKit
set_option linter.unusedSimpArgs false
set_option linter.unusedVariables false
/-- a slice of texts -/
def RdS (w : World) (A : Option Addr) (l : List ByteArray) : Prop := 0 < l.length → ∃ b off, A = some ⟨b, off, none⟩ ∧ b < w.heap.size ∧ ∀ (i : Nat) (s : ByteArray), l[i]? = some s → w.cell? ⟨b, off + i, none⟩ = some (.string s)
theorem RdS.ext {w w' : World} {A : Option Addr} {l : List ByteArray} (h : RdS w A l) (hb : Below w.heap.size w w') : RdS w' A l := fun h0 => by
  obtain ⟨b, off, h1, h2, h3⟩ := h h0
  exact ⟨b, off, h1, Nat.lt_of_lt_of_le h2 hb.size, fun i s hi => (hb.cell (p := ⟨b, off + i, none⟩) h2).trans (h3 i s hi)⟩
theorem RdS.new (w : World) (t : TypeId) (l : List ByteArray) : RdS (w.alloc (.cells (l.map Value.string).toArray t)) (some ⟨w.heap.size, 0, none⟩) l := fun _ =>
  ⟨w.heap.size, 0, rfl, by simp, fun i s hi => by simp [hi]⟩
def eqT (s x : ByteArray) : Bool := s.toList == x.toList
theorem index_any (A : Option Addr) (c : Nat) (l : List ByteArray) (s : ByteArray) (w : World) (hr : RdS w A l) (hn : l.length ≤ 1000) :
    Calls Tryz.prog 32 #[.slice A l.length c, .string s] w fun e w' => e = .returned (.int .i64 (placeI (fstP (eqT s) l))) ∧ w = w' := by
  have HR := Lib.hid hr
  clear hr
  go_enter Tryz.func32, Tryz.ntmps32
  go_wp2
  go_loop [5, 8] (fun _ s8 => ∃ k : Nat, k ≤ l.length ∧ s8 = .int .i64 k ∧ Hid (∀ (j : Nat) (y : ByteArray), j < k → l[j]? = some y → eqT s y = false)) (fun _ s8 => l.length - (intOf s8).toNat)
  case atStart => exact ⟨0, Nat.zero_le _, rfl, Lib.hid (fun j y hj => absurd hj (by omega))⟩
  case round =>
    obtain ⟨k, hk, rfl, HN⟩ := hrel
    by_cases hlt : k < l.length
    · obtain ⟨x, hx⟩ : ∃ x, l[k]? = some x := ⟨_, List.getElem?_eq_getElem hlt⟩
      have HX := Lib.hid hx
      obtain ⟨b, off, rfl, hb, hcc⟩ := HR.out (by omega)
      have c0 := hcc k x hx
      clear hx hcc
      cases hq : eqT s x with
      | true =>
        have HF : Hid (fstP (eqT s) l = some k) := fstP_is HX.out hq HN.out
        unfold eqT at hq
        generalize l.length = n at *
        go_wp2
        go_ret
        exact ⟨ret_int (by rw [HF.out]; rfl), rfl⟩
      | false =>
        have HF : Hid (∀ (j : Nat) (y : ByteArray), j < k + 1 → l[j]? = some y → eqT s y = false) := Lib.hid (fun j y hj hy => by
          rcases Nat.lt_or_ge j k with h1 | h1
          · exact HN.out j y h1 hy
          · obtain rfl : j = k := by omega
            rw [HX.out] at hy
            simp only [Option.some.injEq] at hy
            rw [← hy]; exact hq)
        unfold eqT at hq
        generalize l.length = n at *
        go_wp2
        go_round
        case rel => exact ⟨k + 1, by omega, by go_num, HF⟩
        case measure => simp [intOf]; omega
    · have HF : Hid (fstP (eqT s) l = none) := fstP_not (fun j y hy => HN.out j y (by have := (List.getElem?_eq_some_iff.1 hy).1; omega) hy)
      generalize l.length = n at *
      go_wp2
      go_ret
      exact ⟨ret_int (by rw [HF.out]; rfl), rfl⟩
theorem has_eq (l : List ByteArray) (s : ByteArray) : hasS l s = l.any (eqT s) := by
  unfold hasS eqT
  congr 1
  funext x
  rw [Bool.eq_iff_iff, beq_iff_eq, beq_iff_eq]
  exact ⟨Eq.symm, Eq.symm⟩
theorem contains_any (A : Option Addr) (c : Nat) (l : List ByteArray) (s : ByteArray) (w : World) (hr : RdS w A l) (hn : l.length ≤ 1000) :
    Calls Tryz.prog 59 #[.slice A l.length c, .string s] w fun e w' => e = .returned (.bool (hasS l s)) ∧ w = w' := by
  have H := Lib.hid (index_any A c l s w hr hn)
  have HX : Box (hasS l s = decide (0 ≤ placeI (fstP (eqT s) l))) := ⟨by rw [placeI_ge, has_eq, fstP_any]⟩
  generalize placeI (fstP (eqT s) l) = r at *
  generalize hasS l s = q at *
  generalize l.length = n at *
  clear hr
  go_enter Tryz.func59, Tryz.ntmps59
  go_wp2_with fail
  refine H.out.mono ?_
  rintro e w1 ⟨rfl, rfl⟩
  go_wp2
  go_ret
  exact ⟨ret_bool HX.out.symm, rfl⟩
theorem one_any (A : Option Addr) (c : Nat) (l : List ByteArray) (s : ByteArray) (w : World) (hr : RdS w A l) (hn : l.length ≤ 1000) :
    Calls Tryz.prog 147 #[.string s, .slice A l.length c] w fun e w' => e = .returned (.bool (hasS l s)) ∧ w = w' := by
  have HR := Lib.hid hr
  have HH : Box (hasS l s = l.any fun x => x.toList == s.toList) := ⟨rfl⟩
  clear hr
  generalize hasS l s = r at *
  go_enter Tryz.func147, Tryz.ntmps147
  go_wp2
  go_loop [5] (fun s5 => ∃ k : Nat, k ≤ l.length ∧ s5 = .int .i64 k ∧ Hid (∀ (j : Nat) (y : ByteArray), j < k → l[j]? = some y → (y.toList == s.toList) = false)) (fun s5 => l.length - (intOf s5).toNat)
  case atStart => exact ⟨0, Nat.zero_le _, rfl, Lib.hid (fun j y hj => absurd hj (by omega))⟩
  case round =>
    obtain ⟨k, hk, rfl, HN⟩ := hrel
    by_cases hlt : k < l.length
    · obtain ⟨x, hx⟩ : ∃ x, l[k]? = some x := ⟨_, List.getElem?_eq_getElem hlt⟩
      have HX := Lib.hid hx
      obtain ⟨b, off, rfl, hb, hcc⟩ := HR.out (by omega)
      have c0 := hcc k x hx
      clear hx hcc
      cases hq : x.toList == s.toList with
      | true =>
        have HF : Box (r = true) := ⟨by rw [HH.out, List.any_eq_true]; exact ⟨x, List.mem_of_getElem? HX.out, hq⟩⟩
        generalize l.length = n at *
        go_wp2
        go_ret
        exact ⟨ret_bool HF.out.symm, rfl⟩
      | false =>
        have HF : Hid (∀ (j : Nat) (y : ByteArray), j < k + 1 → l[j]? = some y → (y.toList == s.toList) = false) := Lib.hid (fun j y hj hy => by
          rcases Nat.lt_or_ge j k with h1 | h1
          · exact HN.out j y h1 hy
          · obtain rfl : j = k := by omega
            rw [HX.out] at hy
            simp only [Option.some.injEq] at hy
            rw [← hy]; exact hq)
        generalize l.length = n at *
        go_wp2
        go_round
        case rel => exact ⟨k + 1, by omega, by go_num, HF⟩
        case measure => simp [intOf]; omega
    · have HF : Box (r = false) := ⟨by
        rw [HH.out, List.any_eq_false]
        intro x hx
        obtain ⟨j, hj, rfl⟩ := List.mem_iff_getElem.1 hx
        rw [HN.out j _ (by omega) (List.getElem?_eq_getElem hj)]
        simp⟩
      generalize l.length = n at *
      go_wp2
      go_ret
      exact ⟨ret_bool HF.out.symm, rfl⟩
theorem names_any (w : World) : Calls Tryz.prog 33 #[] w fun e w' => e = .returned (.slice (some ⟨w.heap.size, 0, none⟩) 4 4) ∧ RdS w' (some ⟨w.heap.size, 0, none⟩) kindNames ∧ Below w.heap.size w w' := by
  have HS := Lib.hid (RdS.new w 9 kindNames)
  have HX := Lib.hid ((Below.refl w.heap.size w).alloc (Nat.le_refl _) (.cells (kindNames.map Value.string).toArray 9))
  go_enter Tryz.func33, Tryz.ntmps33
  go_wp2
  go_ret
  exact ⟨rfl, HS.out, HX.out⟩
set_option maxHeartbeats 4000000 in
set_option maxRecDepth 10000 in
theorem typed_any (k : Int) (s : ByteArray) (w : World) (h0 : 0 ≤ k) (h1 : k < 256) : Calls Tryz.prog 91 #[.int .u8 k, .string s] w fun e w' => e = .returned (.bool (typedI k s)) ∧ Below w.heap.size w w' := by
  have HS := Lib.hid (fun l => RdS.new w 9 l)
  have HX := Lib.hid (fun l : List ByteArray => (Below.refl w.heap.size w).alloc (Nat.le_refl _) (.cells (l.map Value.string).toArray 9))
  have H := Lib.hid (fun l (hl : l.length ≤ 1000) => one_any (some ⟨w.heap.size, 0, none⟩) l.length l s _ (HS.out l) hl)
  have HT : Box (typedI k s = hasS (typesOf k) s) := ⟨rfl⟩
  generalize typedI k s = r at *
  by_cases k1 : k = 1
  · subst k1
    have H1 := Lib.hid (H.out msgTypes (by decide))
    have HR : Box (r = hasS msgTypes s) := ⟨by rw [HT.out]; rfl⟩
    generalize hasS msgTypes s = q at *
    go_enter Tryz.func91, Tryz.ntmps91
    go_wp2_with fail
    refine H1.out.mono ?_
    rintro e w1 ⟨rfl, rfl⟩
    go_wp2
    go_ret
    exact ⟨ret_bool HR.out.symm, HX.out msgTypes⟩
  · by_cases k2 : k = 2
    · subst k2
      have H1 := Lib.hid (H.out preTypes (by decide))
      have HR : Box (r = hasS preTypes s) := ⟨by rw [HT.out]; rfl⟩
      generalize hasS preTypes s = q at *
      go_enter Tryz.func91, Tryz.ntmps91
      go_wp2_with fail
      refine H1.out.mono ?_
      rintro e w1 ⟨rfl, rfl⟩
      go_wp2
      go_ret
      exact ⟨ret_bool HR.out.symm, HX.out preTypes⟩
    · have q1 : (k == 1) = false := by simpa using k1
      have q2 : (k == 2) = false := by simpa using k2
      by_cases k3 : k = 3
      · subst k3
        have H1 := Lib.hid (H.out iqTypes (by decide))
        have HR : Box (r = hasS iqTypes s) := ⟨by rw [HT.out]; rfl⟩
        generalize hasS iqTypes s = q at *
        go_enter Tryz.func91, Tryz.ntmps91
        go_wp2_with fail
        refine H1.out.mono ?_
        rintro e w1 ⟨rfl, rfl⟩
        go_wp2
        go_ret
        exact ⟨(ret_bool (by first | (rw [HR.out]; done) | (rw [HR.out]; simp_all; done))), HX.out iqTypes⟩
      · have q3 : (k == 3) = false := by simpa using k3
        have HR : Box (r = false) := ⟨by rw [HT.out]; unfold typesOf; rw [if_neg k1, if_neg k2, if_neg k3]; rfl⟩
        clear k1 k2 k3
        go_enter Tryz.func91, Tryz.ntmps91
        go_wp2
        go_ret
        exact ⟨ret_bool HR.out.symm, Below.refl _ _⟩
def wordI (k : Int) : ByteArray := if k = 1 then (⟨#[109, 101, 115, 115, 97, 103, 101]⟩ : ByteArray) else if k = 2 then (⟨#[112, 114, 101, 115, 101, 110, 99, 101]⟩ : ByteArray) else if k = 3 then (⟨#[105, 113]⟩ : ByteArray) else emB
theorem word_any (k : Int) (w : World) (h0 : 0 ≤ k) (h1 : k < 256) : Calls Tryz.prog 85 #[.int .u8 k] w fun e w' => e = .returned (.string (wordI k)) ∧ w = w' := by
  have HT : Box (wordI k = if k = 1 then (⟨#[109, 101, 115, 115, 97, 103, 101]⟩ : ByteArray) else if k = 2 then (⟨#[112, 114, 101, 115, 101, 110, 99, 101]⟩ : ByteArray) else if k = 3 then (⟨#[105, 113]⟩ : ByteArray) else emB) := ⟨rfl⟩
  generalize wordI k = r at *
  by_cases k1 : k = 1
  · subst k1
    have HR : Box (r = (⟨#[109, 101, 115, 115, 97, 103, 101]⟩ : ByteArray)) := ⟨HT.out⟩
    go_enter Tryz.func85, Tryz.ntmps85
    go_wp2
    go_ret
    exact ⟨ret_strA (by first | (rw [HR.out]; done) | (rw [HR.out]; rfl)), rfl⟩
  · by_cases k2 : k = 2
    · subst k2
      have HR : Box (r = (⟨#[112, 114, 101, 115, 101, 110, 99, 101]⟩ : ByteArray)) := ⟨HT.out⟩
      go_enter Tryz.func85, Tryz.ntmps85
      go_wp2
      go_ret
      exact ⟨ret_strA (by first | (rw [HR.out]; done) | (rw [HR.out]; rfl)), rfl⟩
    · have q1 : (k == 1) = false := by simpa using k1
      have q2 : (k == 2) = false := by simpa using k2
      by_cases k3 : k = 3
      · subst k3
        have HR : Box (r = (⟨#[105, 113]⟩ : ByteArray)) := ⟨HT.out⟩
        go_enter Tryz.func85, Tryz.ntmps85
        go_wp2
        go_ret
        exact ⟨ret_strA (by first | (rw [HR.out]; done) | (rw [HR.out]; rfl)), rfl⟩
      · have q3 : (k == 3) = false := by simpa using k3
        have HR : Box (r = emB) := ⟨by rw [HT.out, if_neg k1, if_neg k2, if_neg k3]⟩
        clear k1 k2 k3
        go_enter Tryz.func85, Tryz.ntmps85
        go_wp2
        go_ret
        exact ⟨ret_strA (by first | (rw [HR.out]; done) | (rw [HR.out]; rfl)), rfl⟩
end Go.Proofs.YtnmnpnofdgdigaaGreatDoor
end
