import Derived.Test.YtnmnpnofdgdigaaGreatDoorZ01
import Derived.Lib.SlTrimSet
import Derived.Lib.IndexMore
import Derived.Lib.IndexAny
import Derived.Shelf.GgClosure.StringsIndexFunc
import Derived.Lib.Index
set_option linter.all false
section
/- Plain law: the document's way to find the code point that bytes begin with is the decoder's. No program here. -/
namespace Go.Proofs.YtnmnpnofdgdigaaGreatDoor
open Go.Lib (decodeN)
def badD (d : Nat × Nat) : Prop := mayP (d.1 : Int) = false ∨ d = (65533, 1)
theorem law1 (n b0 b1 b2 b3 : Nat) (h : b0 < 128) : decodeN n b0 b1 b2 b3 = (b0, 1) ∧ bytesU (b0 : Int) = [(b0 : Int)] := by
  refine ⟨by unfold decodeN; rw [if_pos h], ?_⟩
  unfold bytesU
  rw [if_pos (by omega)]
theorem law0 (n b0 b1 b2 b3 : Nat) (h : (128 ≤ b0 ∧ b0 < 192) ∨ 248 ≤ b0) (h0 : b0 < 256) : decodeN n b0 b1 b2 b3 = (65533, 1) := by
  unfold decodeN
  rw [if_neg (by omega), if_neg (by omega), if_neg (by omega), if_neg (by omega)]
theorem short2 (n b0 b1 b2 b3 : Nat) (h : 192 ≤ b0 ∧ b0 < 224) (hn : n < 2) : decodeN n b0 b1 b2 b3 = (65533, 1) := by
  unfold decodeN
  rw [if_neg (by omega), if_neg (by omega), if_neg (by omega), if_neg (by omega)]
theorem short3 (n b0 b1 b2 b3 : Nat) (h : 224 ≤ b0 ∧ b0 < 240) (hn : n < 3) : decodeN n b0 b1 b2 b3 = (65533, 1) := by
  unfold decodeN
  rw [if_neg (by omega), if_neg (by omega), if_neg (by omega), if_neg (by omega)]
theorem short4 (n b0 b1 b2 b3 : Nat) (h : 240 ≤ b0 ∧ b0 < 248) (hn : n < 4) : decodeN n b0 b1 b2 b3 = (65533, 1) := by
  unfold decodeN
  rw [if_neg (by omega), if_neg (by omega), if_neg (by omega), if_neg (by omega)]
theorem law2 (n b0 b1 b2 b3 : Nat) (h : 192 ≤ b0 ∧ b0 < 224) (hn : 2 ≤ n) (h1 : b1 < 256) (v : Int) (hv : v = 64 * ((b0 : Int) - 192) + (b1 : Int) % 64) :
    (mayP v = true ∧ bytesU v = [(b0 : Int), b1] ∧ decodeN n b0 b1 b2 b3 = (v.toNat, 2)) ∨ ((mayP v = false ∨ bytesU v ≠ [(b0 : Int), b1]) ∧ badD (decodeN n b0 b1 b2 b3)) := by
  by_cases hc : b1 / 64 = 2 ∧ 128 ≤ v
  · have hd : decodeN n b0 b1 b2 b3 = (v.toNat, 2) := by
      unfold decodeN
      rw [if_neg (by omega), if_pos (by omega), if_pos (by omega)]
      congr 1
      omega
    have hb : bytesU v = [(b0 : Int), b1] := by
      unfold bytesU
      rw [if_neg (by omega), if_pos (by omega)]
      congr 1
      · omega
      · congr 1; omega
    cases hm : mayP v with
    | true => exact .inl ⟨rfl, hb, hd⟩
    | false => exact .inr ⟨.inl rfl, by rw [hd]; left; rw [← hm]; congr 1; show ((v.toNat : Nat) : Int) = v; omega⟩
  · have hd : decodeN n b0 b1 b2 b3 = (65533, 1) := by
      unfold decodeN
      rw [if_neg (by omega)]
      by_cases h2 : b1 / 64 = 2
      · rw [if_pos (by omega), if_neg (by omega)]
      · rw [if_neg (by omega), if_neg (by omega), if_neg (by omega)]
    refine .inr ⟨.inr ?_, .inr hd⟩
    unfold bytesU
    split
    · intro e; simp at e
    · rw [if_pos (by omega)]
      intro e
      simp only [List.cons.injEq, and_true] at e
      omega
theorem law3 (n b0 b1 b2 b3 : Nat) (h : 224 ≤ b0 ∧ b0 < 240) (hn : 3 ≤ n) (h1 : b1 < 256) (h2 : b2 < 256) (v : Int) (hv : v = 64 * (64 * ((b0 : Int) - 224) + (b1 : Int) % 64) + (b2 : Int) % 64) :
    (mayP v = true ∧ bytesU v = [(b0 : Int), b1, b2] ∧ decodeN n b0 b1 b2 b3 = (v.toNat, 3)) ∨ ((mayP v = false ∨ bytesU v ≠ [(b0 : Int), b1, b2]) ∧ badD (decodeN n b0 b1 b2 b3)) := by
  by_cases hc : b1 / 64 = 2 ∧ b2 / 64 = 2 ∧ 2048 ≤ v
  · have hb : bytesU v = [(b0 : Int), b1, b2] := by
      unfold bytesU
      rw [if_neg (by omega), if_neg (by omega), if_pos (by omega)]
      congr 1
      · omega
      · congr 1
        · omega
        · congr 1; omega
    by_cases hs : v < 55296 ∨ 57344 ≤ v
    · have hd : decodeN n b0 b1 b2 b3 = (v.toNat, 3) := by
        unfold decodeN
        rw [if_neg (by omega), if_neg (by omega), if_pos (by omega), if_pos (by omega)]
        congr 1
        omega
      cases hm : mayP v with
      | true => exact .inl ⟨rfl, hb, hd⟩
      | false => exact .inr ⟨.inl rfl, by rw [hd]; left; rw [← hm]; congr 1; show ((v.toNat : Nat) : Int) = v; omega⟩
    · have hd : decodeN n b0 b1 b2 b3 = (65533, 1) := by
        unfold decodeN
        rw [if_neg (by omega), if_neg (by omega), if_pos (by omega), if_neg (by omega)]
      refine .inr ⟨.inl ?_, .inr hd⟩
      unfold mayP
      rw [if_neg (by omega), decide_eq_false_iff_not]
      omega
  · have hd : decodeN n b0 b1 b2 b3 = (65533, 1) := by
      unfold decodeN
      rw [if_neg (by omega), if_neg (by omega)]
      by_cases h3 : b1 / 64 = 2 ∧ b2 / 64 = 2
      · rw [if_pos (by omega), if_neg (by omega)]
      · rw [if_neg (by omega), if_neg (by omega)]
    refine .inr ⟨.inr ?_, .inr hd⟩
    unfold bytesU
    split
    · intro e; simp at e
    · split
      · intro e; simp at e
      · rw [if_pos (by omega)]
        intro e
        simp only [List.cons.injEq, and_true] at e
        omega
theorem law4 (n b0 b1 b2 b3 : Nat) (h : 240 ≤ b0 ∧ b0 < 248) (hn : 4 ≤ n) (h1 : b1 < 256) (h2 : b2 < 256) (h3 : b3 < 256) (v : Int) (hv : v = 64 * (64 * (64 * ((b0 : Int) - 240) + (b1 : Int) % 64) + (b2 : Int) % 64) + (b3 : Int) % 64) :
    (mayP v = true ∧ bytesU v = [(b0 : Int), b1, b2, b3] ∧ decodeN n b0 b1 b2 b3 = (v.toNat, 4)) ∨ ((mayP v = false ∨ bytesU v ≠ [(b0 : Int), b1, b2, b3]) ∧ badD (decodeN n b0 b1 b2 b3)) := by
  by_cases hc : b1 / 64 = 2 ∧ b2 / 64 = 2 ∧ b3 / 64 = 2 ∧ 65536 ≤ v
  · have hb : bytesU v = [(b0 : Int), b1, b2, b3] := by
      unfold bytesU
      rw [if_neg (by omega), if_neg (by omega), if_neg (by omega)]
      congr 1
      · omega
      · congr 1
        · omega
        · congr 1
          · omega
          · congr 1; omega
    by_cases hs : v ≤ 1114111
    · have hd : decodeN n b0 b1 b2 b3 = (v.toNat, 4) := by
        unfold decodeN
        rw [if_neg (by omega), if_neg (by omega), if_neg (by omega), if_pos (by omega), if_pos (by omega)]
        congr 1
        omega
      cases hm : mayP v with
      | true => exact .inl ⟨rfl, hb, hd⟩
      | false => exact .inr ⟨.inl rfl, by rw [hd]; left; rw [← hm]; congr 1; show ((v.toNat : Nat) : Int) = v; omega⟩
    · have hd : decodeN n b0 b1 b2 b3 = (65533, 1) := by
        unfold decodeN
        rw [if_neg (by omega), if_neg (by omega), if_neg (by omega), if_pos (by omega), if_neg (by omega)]
      refine .inr ⟨.inl ?_, .inr hd⟩
      unfold mayP
      rw [if_neg (by omega), decide_eq_false_iff_not]
      omega
  · have hd : decodeN n b0 b1 b2 b3 = (65533, 1) := by
      unfold decodeN
      rw [if_neg (by omega), if_neg (by omega), if_neg (by omega)]
      by_cases h4 : b1 / 64 = 2 ∧ b2 / 64 = 2 ∧ b3 / 64 = 2
      · rw [if_pos (by omega), if_neg (by omega)]
      · rw [if_neg (by omega)]
    refine .inr ⟨.inr ?_, .inr hd⟩
    unfold bytesU
    split
    · intro e; simp at e
    · split
      · intro e; simp at e
      · split
        · intro e; simp at e
        · intro e
          simp only [List.cons.injEq, and_true] at e
          omega
/-! ### for a text -/
def b_at (s : ByteArray) (i : Nat) : Nat := (s.get! i).toNat
theorem b_lt (s : ByteArray) (i : Nat) : b_at s i < 256 := UInt8.toNat_lt _
theorem nums_at (s : ByteArray) (i : Nat) (h : i < s.size) : (numsOf s).getD i 0 = (b_at s i : Int) := by
  rw [List.getD_eq_getElem?_getD, numsOf_get s i h]
  show ((s[i]'h).toNat : Int) = ((s.get! i).toNat : Int)
  congr 2
  simp [ByteArray.get!, ByteArray.getElem_eq_getElem_data, h]
theorem take_at (s : ByteArray) (k : Nat) (h : k ≤ s.size) : (numsOf s).take k = (List.range k).map fun i => (b_at s i : Int) := by
  apply List.ext_getElem?
  intro i
  rw [List.getElem?_take]
  split
  · rename_i hi
    rw [List.getElem?_map, List.getElem?_range hi, Option.map_some, ← nums_at s i (by omega), List.getD_eq_getElem?_getD, numsOf_get s i (by omega)]
    rfl
  · rw [List.getElem?_eq_none (by simp; omega)]
theorem one_law (s : ByteArray) (h : 0 < s.size) (z : Int) (hz : z = headN ((numsOf s).getD 0 0)) :
    ((z = 0 ∨ (s.size : Int) < z) ∧ okAt s 0 = false) ∨
    (1 ≤ z ∧ z ≤ 4 ∧ z ≤ (s.size : Int) ∧ (0 ≤ valU (numsOf s) (z.toNat - 1) ∧ valU (numsOf s) (z.toNat - 1) < 2097152) ∧
      ((mayP (valU (numsOf s) (z.toNat - 1)) = true ∧ bytesU (valU (numsOf s) (z.toNat - 1)) = (numsOf s).take z.toNat ∧ okAt s 0 = true ∧ ((Utf8.decode s 0).1 : Int) = valU (numsOf s) (z.toNat - 1) ∧ ((Utf8.decode s 0).2 : Int) = z) ∨
       ((mayP (valU (numsOf s) (z.toNat - 1)) = false ∨ bytesU (valU (numsOf s) (z.toNat - 1)) ≠ (numsOf s).take z.toNat) ∧ okAt s 0 = false))) := by
  have hdec : Utf8.decode s 0 = decodeN s.size (b_at s 0) (b_at s 1) (b_at s 2) (b_at s 3) := by
    have := Lib.decode_at s 0
    simpa [b_at] using this
  have bad : badD (Utf8.decode s 0) → okAt s 0 = false := by
    intro hb
    unfold okAt
    rcases hb with hb | hb
    · rw [hb]; rfl
    · rw [hb]; simp
  have good : ∀ (v : Int) (k : Nat), 0 ≤ v → mayP v = true → Utf8.decode s 0 = (v.toNat, k) → 1 ≤ k → (k = 1 → v < 65533) → okAt s 0 = true := by
    intro v k h0 hm hd hk h1
    unfold okAt
    rw [hd]
    have e : ((v.toNat : Nat) : Int) = v := by omega
    rw [e, hm]
    simp only [Bool.true_and, Bool.not_eq_true', decide_eq_false_iff_not]
    omega
  have h0 := b_lt s 0
  have h1 := b_lt s 1
  have h2 := b_lt s 2
  have h3 := b_lt s 3
  rw [nums_at s 0 h] at hz
  have hv0 : valU (numsOf s) 0 = headV (b_at s 0 : Int) := by unfold valU; rw [nums_at s 0 h]
  generalize hb0 : b_at s 0 = b0 at *
  have hc : b0 < 128 ∨ ((128 ≤ b0 ∧ b0 < 192) ∨ 248 ≤ b0) ∨ (192 ≤ b0 ∧ b0 < 224) ∨ (224 ≤ b0 ∧ b0 < 240) ∨ (240 ≤ b0 ∧ b0 < 248) := by omega
  rcases hc with hc | hc | hc | hc | hc
  · have e : z = 1 := by rw [hz]; unfold headN; rw [if_pos (by omega)]
    subst e
    obtain ⟨hd, hb⟩ := law1 s.size b0 (b_at s 1) (b_at s 2) (b_at s 3) hc
    rw [hd] at hdec
    have e0 : headV (b0 : Int) = b0 := by unfold headV; rw [if_pos (by omega)]
    refine .inr ⟨by omega, by omega, by omega, ?_⟩
    show (0 ≤ valU (numsOf s) 0 ∧ valU (numsOf s) 0 < 2097152) ∧ _
    rw [show ((1 : Int).toNat - 1) = 0 from rfl, show (1 : Int).toNat = 1 from rfl, hv0, e0, hb, take_at s 1 (by omega)]
    refine ⟨by omega, ?_⟩
    cases hm : mayP (b0 : Int) with
    | true => exact .inl ⟨rfl, by simp [List.range_succ, hb0], good b0 1 (by omega) hm (by simpa using hdec) (by omega) (by omega), by rw [hdec], by rw [hdec]; rfl⟩
    | false => exact .inr ⟨.inl rfl, bad (by rw [hdec]; exact .inl hm)⟩
  · have e : z = 0 := by rw [hz]; unfold headN; rw [if_neg (by omega), if_neg (by omega), if_neg (by omega), if_neg (by omega)]
    exact .inl ⟨.inl e, bad (by rw [hdec, law0 _ _ _ _ _ hc h0]; exact .inr rfl)⟩
  · have e : z = 2 := by rw [hz]; unfold headN; rw [if_neg (by omega), if_pos (by omega)]
    subst e
    by_cases hn : s.size < 2
    · exact .inl ⟨.inr (by omega), bad (by rw [hdec, short2 _ _ _ _ _ hc hn]; exact .inr rfl)⟩
    · have e0 : headV (b0 : Int) = b0 - 192 := by unfold headV; rw [if_neg (by omega), if_pos (by omega)]
      have hv : valU (numsOf s) 1 = 64 * ((b0 : Int) - 192) + (b_at s 1 : Int) % 64 := by
        show 64 * valU (numsOf s) 0 + (numsOf s).getD 1 0 % 64 = _
        rw [hv0, e0, nums_at s 1 (by omega)]
      refine .inr ⟨by omega, by omega, by omega, ?_⟩
      show (0 ≤ valU (numsOf s) 1 ∧ valU (numsOf s) 1 < 2097152) ∧ _
      rw [show ((2 : Int).toNat - 1) = 1 from rfl, show (2 : Int).toNat = 2 from rfl, take_at s 2 (by omega)]
      refine ⟨by omega, ?_⟩
      simp only [List.range_succ, List.range_zero, List.nil_append, List.cons_append, List.map_cons, List.map_nil, hb0]
      rcases law2 s.size b0 (b_at s 1) (b_at s 2) (b_at s 3) hc (by omega) h1 _ hv with ⟨k1, k2, k3⟩ | ⟨k1, k2⟩
      · rw [← hdec] at k3
        exact .inl ⟨k1, k2, good _ 2 (by omega) k1 k3 (by omega) (by omega), by rw [k3]; show ((Int.toNat _ : Nat) : Int) = _; omega, by rw [k3]; rfl⟩
      · exact .inr ⟨k1, bad (by rw [hdec]; exact k2)⟩
  · have e : z = 3 := by rw [hz]; unfold headN; rw [if_neg (by omega), if_neg (by omega), if_pos (by omega)]
    subst e
    by_cases hn : s.size < 3
    · exact .inl ⟨.inr (by omega), bad (by rw [hdec, short3 _ _ _ _ _ hc hn]; exact .inr rfl)⟩
    · have e0 : headV (b0 : Int) = b0 - 224 := by unfold headV; rw [if_neg (by omega), if_neg (by omega), if_pos (by omega)]
      have hv : valU (numsOf s) 2 = 64 * (64 * ((b0 : Int) - 224) + (b_at s 1 : Int) % 64) + (b_at s 2 : Int) % 64 := by
        show 64 * (64 * valU (numsOf s) 0 + (numsOf s).getD 1 0 % 64) + (numsOf s).getD 2 0 % 64 = _
        rw [hv0, e0, nums_at s 1 (by omega), nums_at s 2 (by omega)]
      refine .inr ⟨by omega, by omega, by omega, ?_⟩
      show (0 ≤ valU (numsOf s) 2 ∧ valU (numsOf s) 2 < 2097152) ∧ _
      rw [show ((3 : Int).toNat - 1) = 2 from rfl, show (3 : Int).toNat = 3 from rfl, take_at s 3 (by omega)]
      refine ⟨by omega, ?_⟩
      simp only [List.range_succ, List.range_zero, List.nil_append, List.cons_append, List.map_cons, List.map_nil, hb0]
      rcases law3 s.size b0 (b_at s 1) (b_at s 2) (b_at s 3) hc (by omega) h1 h2 _ hv with ⟨k1, k2, k3⟩ | ⟨k1, k2⟩
      · rw [← hdec] at k3
        exact .inl ⟨k1, k2, good _ 3 (by omega) k1 k3 (by omega) (by omega), by rw [k3]; show ((Int.toNat _ : Nat) : Int) = _; omega, by rw [k3]; rfl⟩
      · exact .inr ⟨k1, bad (by rw [hdec]; exact k2)⟩
  · have e : z = 4 := by rw [hz]; unfold headN; rw [if_neg (by omega), if_neg (by omega), if_neg (by omega), if_pos (by omega)]
    subst e
    by_cases hn : s.size < 4
    · exact .inl ⟨.inr (by omega), bad (by rw [hdec, short4 _ _ _ _ _ hc hn]; exact .inr rfl)⟩
    · have e0 : headV (b0 : Int) = b0 - 240 := by unfold headV; rw [if_neg (by omega), if_neg (by omega), if_neg (by omega), if_pos (by omega)]
      have hv : valU (numsOf s) 3 = 64 * (64 * (64 * ((b0 : Int) - 240) + (b_at s 1 : Int) % 64) + (b_at s 2 : Int) % 64) + (b_at s 3 : Int) % 64 := by
        show 64 * (64 * (64 * valU (numsOf s) 0 + (numsOf s).getD 1 0 % 64) + (numsOf s).getD 2 0 % 64) + (numsOf s).getD 3 0 % 64 = _
        rw [hv0, e0, nums_at s 1 (by omega), nums_at s 2 (by omega), nums_at s 3 (by omega)]
      refine .inr ⟨by omega, by omega, by omega, ?_⟩
      show (0 ≤ valU (numsOf s) 3 ∧ valU (numsOf s) 3 < 2097152) ∧ _
      rw [show ((4 : Int).toNat - 1) = 3 from rfl, show (4 : Int).toNat = 4 from rfl, take_at s 4 (by omega)]
      refine ⟨by omega, ?_⟩
      simp only [List.range_succ, List.range_zero, List.nil_append, List.cons_append, List.map_cons, List.map_nil, hb0]
      rcases law4 s.size b0 (b_at s 1) (b_at s 2) (b_at s 3) hc (by omega) h1 h2 h3 _ hv with ⟨k1, k2, k3⟩ | ⟨k1, k2⟩
      · rw [← hdec] at k3
        exact .inl ⟨k1, k2, good _ 4 (by omega) k1 k3 (by omega) (by omega), by rw [k3]; show ((Int.toNat _ : Nat) : Int) = _; omega, by rw [k3]; rfl⟩
      · exact .inr ⟨k1, bad (by rw [hdec]; exact k2)⟩
end Go.Proofs.YtnmnpnofdgdigaaGreatDoor
end
section
/- Plain law of addresses (layer 19): parts, texts, what is read. No program here. -/
namespace Go.Proofs.YtnmnpnofdgdigaaGreatDoor
def setAll (cs : List UInt8) (s : ByteArray) : Bool := s.data.toList.all (cs.contains ·)
def plainL : List UInt8 := [97, 98, 99, 100, 101, 102, 103, 104, 105, 106, 107, 108, 109, 110, 111, 112, 113, 114, 115, 116, 117, 118, 119, 120, 121, 122, 48, 49, 50, 51, 52, 53, 54, 55, 56, 57]
def locL : List UInt8 := [97, 98, 99, 100, 101, 102, 103, 104, 105, 106, 107, 108, 109, 110, 111, 112, 113, 114, 115, 116, 117, 118, 119, 120, 121, 122, 48, 49, 50, 51, 52, 53, 54, 55, 56, 57, 46, 45, 95]
def domL : List UInt8 := [97, 98, 99, 100, 101, 102, 103, 104, 105, 106, 107, 108, 109, 110, 111, 112, 113, 114, 115, 116, 117, 118, 119, 120, 121, 122, 48, 49, 50, 51, 52, 53, 54, 55, 56, 57, 46, 45]
def lenOK (s : ByteArray) : Bool := !isEmp s && decide (s.size ≤ 64)
def localI (s : ByteArray) : Bool := lenOK s && setAll locL s
def endsI (s : ByteArray) : Bool := plainL.contains (s.get! 0) && plainL.contains (s.get! (s.size - 1))
def dotsI (s : ByteArray) : Bool := !Lib.contains s.data.toList [46, 46]
def domI (s : ByteArray) : Bool := lenOK s && (setAll domL s && endsI s && dotsI s)
def seenI (s : ByteArray) : Bool := s.data.toList.all fun b => decide (32 ≤ b.toNat)
def resI (s : ByteArray) : Bool := lenOK s && (decide (textErr s = 0) && seenI s)
structure JidL where
  loc : ByteArray
  dom : ByteArray
  res : ByteArray
def jidI (j : JidL) : Bool := (isEmp j.loc || localI j.loc) && (isEmp j.res || resI j.res) && domI j.dom
theorem dropWhile_nil {α : Type} {p : α → Bool} : ∀ {l : List α}, l.dropWhile p = [] ↔ l.all p = true
  | [] => by simp
  | x :: t => by
    rw [List.dropWhile_cons, List.all_cons]
    cases h : p x
    · simp
    · simp only [if_true, Bool.true_and]
      exact dropWhile_nil
theorem all_rev {α : Type} {p : α → Bool} (l : List α) : l.reverse.all p = l.all p := by rw [List.all_reverse]
theorem dropWhile_split {α : Type} (p : α → Bool) : ∀ (l : List α), ∃ a, l = a ++ l.dropWhile p ∧ a.all p = true
  | [] => ⟨[], rfl, rfl⟩
  | x :: t => by
    rw [List.dropWhile_cons]
    cases h : p x
    · exact ⟨[], rfl, rfl⟩
    · obtain ⟨a, h1, h2⟩ := dropWhile_split p t
      exact ⟨x :: a, by simp only [if_true, List.cons_append]; rw [← h1], by rw [List.all_cons, h, h2]; rfl⟩
theorem trimS_nil (l cs : List UInt8) : Lib.trimS l cs = [] ↔ l.all (cs.contains ·) = true := by
  unfold Lib.trimS Lib.trimLeftS Lib.trimRightS
  rw [dropWhile_nil, all_rev]
  obtain ⟨a, h1, h2⟩ := dropWhile_split (cs.contains ·) l.reverse
  constructor
  · intro h
    rw [← all_rev, h1, List.all_append, h2, h]
    rfl
  · intro h
    rw [← all_rev, h1, List.all_append, Bool.and_eq_true] at h
    exact h.2
theorem set_at {cs : List UInt8} {s : ByteArray} (h : setAll cs s = true) (i : Nat) (hi : i < s.size) : cs.contains (s.get! i) = true := by
  unfold setAll at h
  rw [List.all_eq_true] at h
  refine h _ ?_
  have hl : i < s.data.toList.length := hi
  have e : s.get! i = s.data.toList[i] := by
    show s.data[i]! = _
    rw [getElem!_pos s.data i hi]
    rfl
  rw [e]
  exact List.getElem_mem hl
theorem set_lt {cs : List UInt8} (hcs : ∀ b ∈ cs, b.toNat < 128) {s : ByteArray} (h : setAll cs s = true) (i : Nat) (hi : i < s.size) : b_at s i < 128 := by
  have h1 := set_at h i hi
  rw [List.contains_iff_mem] at h1
  exact hcs _ h1
theorem dec_ascii (s : ByteArray) (i : Nat) (hi : i < s.size) (h : b_at s i < 128) : Utf8.decode s i = (b_at s i, 1) := by
  rw [Lib.decode_at s i]
  exact (law1 _ _ _ _ _ h).1
end Go.Proofs.YtnmnpnofdgdigaaGreatDoor
end
section
/- Plain law of addresses (layer 19), more: runes that may be seen, points side by side, what is read of a text. No program here. -/
namespace Go.Proofs.YtnmnpnofdgdigaaGreatDoor
theorem seen_at (s : ByteArray) : seenI s = true ↔ ∀ i, i < s.size → 32 ≤ b_at s i := by
  have hg : ∀ i (h : i < s.data.toList.length), s.get! i = s.data.toList[i] := fun i h => by
    show s.data[i]! = _
    rw [getElem!_pos s.data i h]
    rfl
  unfold seenI b_at
  rw [List.all_eq_true]
  constructor
  · intro h i hi
    have hl : i < s.data.toList.length := hi
    rw [hg i hl]
    exact of_decide_eq_true (h _ (List.getElem_mem hl))
  · intro h b hb
    obtain ⟨i, hi, rfl⟩ := List.mem_iff_getElem.1 hb
    have := h i hi
    rw [hg i hi] at this
    exact decide_eq_true this
theorem dec_seen (s : ByteArray) (i : Nat) : ((Utf8.decode s i).1 < 32 → (Utf8.decode s i).1 = b_at s i) ∧ (32 ≤ (Utf8.decode s i).1 → ∀ k, i ≤ k → k < i + (Utf8.decode s i).2 → 32 ≤ b_at s k) := by
  rw [Lib.decode_at s i]
  generalize s.size - i = n
  obtain ⟨b0, e0⟩ : ∃ b0, b0 = b_at s i := ⟨_, rfl⟩
  obtain ⟨b1, e1⟩ : ∃ b1, b1 = b_at s (i + 1) := ⟨_, rfl⟩
  obtain ⟨b2, e2⟩ : ∃ b2, b2 = b_at s (i + 2) := ⟨_, rfl⟩
  obtain ⟨b3, e3⟩ : ∃ b3, b3 = b_at s (i + 3) := ⟨_, rfl⟩
  have h0 : b0 < 256 := by rw [e0]; exact b_lt s i
  rw [show (s.get! i).toNat = b0 from e0.symm, show (s.get! (i + 1)).toNat = b1 from e1.symm, show (s.get! (i + 2)).toNat = b2 from e2.symm, show (s.get! (i + 3)).toNat = b3 from e3.symm, ← e0]
  by_cases hlt : b0 < 128
  · rw [(law1 n b0 b1 b2 b3 hlt).1]
    refine ⟨fun _ => rfl, fun h1 k hk1 hk2 => ?_⟩
    dsimp only at h1 hk2
    obtain rfl : k = i := by omega
    omega
  · rcases Lib.decodeN_shape n b0 b1 b2 b3 with ⟨h, e⟩ | ⟨_, h, k1, k2, e⟩ | ⟨_, h, k1, k2, k3, k4, e⟩ | ⟨_, h, k1, k2, k3, k4, k5, e⟩ | e
    all_goals
      rw [e]
      dsimp only
      refine ⟨fun h1 => by omega, fun h1 k hk1 hk2 => ?_⟩
    · omega
    · have : k = i ∨ k = i + 1 := by omega
      rcases this with rfl | rfl <;> omega
    · have : k = i ∨ k = i + 1 ∨ k = i + 2 := by omega
      rcases this with rfl | rfl | rfl <;> omega
    · have : k = i ∨ k = i + 1 ∨ k = i + 2 ∨ k = i + 3 := by omega
      rcases this with rfl | rfl | rfl | rfl <;> omega
    · obtain rfl : k = i := by omega
      omega
theorem seen_from (s : ByteArray) : ∀ (f pos : Nat), s.size ≤ pos + f → (0 ≤ Lib.idxFuncFrom (fun r => decide (r < 32)) true s f pos ↔ ∃ i, pos ≤ i ∧ i < s.size ∧ b_at s i < 32)
  | 0, pos, h => by
    simp only [Lib.idxFuncFrom]
    constructor
    · intro h; omega
    · rintro ⟨i, h1, h2, _⟩; omega
  | f + 1, pos, h => by
    unfold Lib.idxFuncFrom
    have hd := Lib.width_pos s pos
    obtain ⟨h1, h2⟩ := dec_seen s pos
    by_cases hp : pos < s.size
    · rw [if_pos hp]
      by_cases hr : (Utf8.decode s pos).1 < 32
      · rw [if_pos (by simpa using hr)]
        have := h1 hr
        constructor
        · intro _; exact ⟨pos, Nat.le_refl _, hp, by omega⟩
        · intro _; omega
      · rw [if_neg (by simpa using hr), seen_from s f _ (by omega)]
        constructor
        · rintro ⟨i, a, b, c⟩; exact ⟨i, by omega, b, c⟩
        · rintro ⟨i, a, b, c⟩
          refine ⟨i, ?_, b, c⟩
          rcases Nat.lt_or_ge i (pos + (Utf8.decode s pos).2) with h3 | h3
          · have := h2 (by omega) i a h3
            omega
          · exact h3
    · rw [if_neg hp]
      constructor
      · intro h; omega
      · rintro ⟨i, a, b, _⟩; omega
theorem seen_law (s : ByteArray) : decide (0 ≤ Lib.idxFunc (fun r => decide (r < 32)) true s) = !seenI s := by
  unfold Lib.idxFunc
  have h := seen_from s s.size 0 (by omega)
  cases hs : seenI s with
  | true =>
    rw [seen_at] at hs
    rw [Bool.not_true, decide_eq_false_iff_not, h]
    rintro ⟨i, _, h2, h3⟩
    have := hs i h2
    omega
  | false =>
    rw [Bool.not_false, decide_eq_true_eq, h]
    refine Classical.byContradiction fun hn => ?_
    have : seenI s = true := (seen_at s).2 fun i hi => by
      rcases Nat.lt_or_ge (b_at s i) 32 with h1 | h1
      · exact absurd ⟨i, Nat.zero_le _, hi, h1⟩ hn
      · exact h1
    rw [hs] at this
    cases this
/-! ### points -/
theorem index_dots : ∀ l : List UInt8, (0 ≤ Lib.index l [46, 46]) ↔ ∃ i : Nat, l[i]? = some 46 ∧ l[i + 1]? = some 46
  | [] => by simp [Lib.index]
  | b :: l => by
    have ih := index_dots l
    have hge := Lib.index_ge l [46, 46]
    unfold Lib.index
    cases hp : ([46, 46] : List UInt8).isPrefixOf (b :: l) with
    | true =>
      simp only [if_true, Int.le_refl, true_iff]
      cases l with
      | nil => simp [List.isPrefixOf] at hp
      | cons c t =>
        simp [List.isPrefixOf] at hp
        exact ⟨0, by simp [hp.1.symm], by simp [hp.2.symm]⟩
    | false =>
      have h0 : ∀ i : Nat, (b :: l)[i]? = some 46 ∧ (b :: l)[i + 1]? = some 46 → ∃ j, i = j + 1 := fun i hi => by
        cases i with
        | succ j => exact ⟨j, rfl⟩
        | zero =>
          exfalso
          simp only [List.getElem?_cons_zero, List.getElem?_cons_succ, Nat.zero_add] at hi
          cases l with
          | nil => simp at hi
          | cons c t =>
            simp at hi
            rw [hi.1, hi.2] at hp
            simp [List.isPrefixOf] at hp
      have e : (∃ i : Nat, (b :: l)[i]? = some 46 ∧ (b :: l)[i + 1]? = some 46) ↔ ∃ i : Nat, l[i]? = some 46 ∧ l[i + 1]? = some 46 := by
        constructor
        · rintro ⟨i, hi⟩
          obtain ⟨j, rfl⟩ := h0 i hi
          exact ⟨j, by simpa using hi⟩
        · rintro ⟨i, hi⟩
          exact ⟨i + 1, by simpa using hi⟩
      rw [e, ← ih]
      simp only [Bool.false_eq_true, if_false]
      by_cases h : Lib.index l [46, 46] = -1
      · rw [h]; decide
      · have hq : (Lib.index l [46, 46] == -1) = false := by rw [beq_eq_false_iff_ne]; exact h
        rw [hq]
        simp only [Bool.false_eq_true, if_false]
        constructor <;> intro _ <;> omega
def dotAt (s : ByteArray) (i : Nat) : Bool := decide (0 < i) && (b_at s i == 46) && (b_at s (i - 1) == 46)
theorem dots_law (s : ByteArray) : Lib.contains s.data.toList [46, 46] = (List.range s.size).any (dotAt s) := by
  have hg : ∀ i, i < s.size → s.data.toList[i]? = some (s.get! i) := fun i h => by
    have hl : i < s.data.toList.length := h
    rw [List.getElem?_eq_getElem hl]
    show _ = some s.data[i]!
    rw [getElem!_pos s.data i h]
    rfl
  have h46 : ∀ b : UInt8, b = 46 ↔ b.toNat = 46 := fun b => by rw [← UInt8.toNat_inj]; rfl
  unfold Lib.contains
  rw [Bool.eq_iff_iff, decide_eq_true_eq, index_dots, List.any_eq_true]
  constructor
  · rintro ⟨i, h1, h2⟩
    have hi := (List.getElem?_eq_some_iff.1 h2).1
    have hi' : i + 1 < s.size := hi
    rw [hg _ hi'] at h2
    rw [hg _ (by omega)] at h1
    simp only [Option.some.injEq] at h1 h2
    refine ⟨i + 1, List.mem_range.2 hi', ?_⟩
    unfold dotAt b_at
    simp [(h46 _).1 h1, (h46 _).1 h2]
  · rintro ⟨i, hi, h⟩
    rw [List.mem_range] at hi
    unfold dotAt b_at at h
    simp only [Bool.and_eq_true, decide_eq_true_eq, beq_iff_eq] at h
    obtain ⟨⟨h1, h2⟩, h3⟩ := h
    refine ⟨i - 1, ?_, ?_⟩
    · rw [hg _ (by omega), (h46 _).2 h3]
    · rw [show i - 1 + 1 = i by omega, hg _ hi, (h46 _).2 h2]
end Go.Proofs.YtnmnpnofdgdigaaGreatDoor
end
