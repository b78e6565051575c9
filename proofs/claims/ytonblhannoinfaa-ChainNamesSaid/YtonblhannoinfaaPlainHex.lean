/- The plain law of layer 1 (hex): digits of bytes, bytes of digits, as lists of integers; no program in sight. -/
import Derived.Laws.BytesArg
import Derived.Laws.Strings
namespace Go.Proofs.Ytonblhannoinfaa
def hexN (c : Int) : Int := if 48 ≤ c ∧ c ≤ 57 then c - 48 else if 97 ≤ c ∧ c ≤ 102 then c - 87 else 0
def isHex (c : Int) : Bool := (48 ≤ c ∧ c ≤ 57) ∨ (97 ≤ c ∧ c ≤ 102)
def ofI (n : Int) : Int := if n < 10 then 48 + n else 87 + n
def putL : List Int → List Int
  | [] => []
  | x :: xs => ofI (x / 16) :: ofI (x % 16) :: putL xs
def isL (l : List Int) : Bool := l.all isHex
def getL : List Int → List Int
  | a :: b :: t => (16 * hexN a + hexN b) :: getL t
  | _ => []
/-- a string's bytes as integers -/
def numsOf (s : ByteArray) : List Int := s.data.toList.map fun c => (c.toNat : Int)
def B8 (l : List Int) : Prop := ∀ x ∈ l, 0 ≤ x ∧ x < 256
theorem numsOf_b8 (s : ByteArray) : B8 (numsOf s) := by
  intro x hx
  simp only [numsOf, List.mem_map] at hx
  obtain ⟨c, _, rfl⟩ := hx
  have := c.toNat_lt
  omega
theorem numsOf_length (s : ByteArray) : (numsOf s).length = s.size := by
  unfold numsOf
  rw [List.length_map]
  cases s
  rfl
theorem numsOf_str {l : List Int} (h : B8 l) : numsOf (strOfNums l) = l := by
  unfold numsOf
  rw [strOfNums_data, List.map_map]
  conv => rhs; rw [← List.map_id l]
  apply List.map_congr_left
  intro x hx
  have := h x hx
  have hlt : x.toNat < 256 := by omega
  simp only [Function.comp, id]
  rw [UInt8.toNat_ofNat_of_lt' hlt]
  omega
theorem str_numsOf (s : ByteArray) : strOfNums (numsOf s) = s := by
  apply ByteArray.ext
  apply Array.ext'
  rw [strOfNums_data]
  unfold numsOf
  rw [List.map_map]
  conv => rhs; rw [← List.map_id s.data.toList]
  apply List.map_congr_left
  intro c _
  simp [Function.comp]
theorem numsOf_inj {s t : ByteArray} (h : numsOf s = numsOf t) : s = t := by rw [← str_numsOf s, h, str_numsOf]
theorem numsOf_get (s : ByteArray) (k : Nat) (h : k < s.size) : (numsOf s)[k]? = some ((s[k]'h).toNat : Int) := by
  have : k < s.data.toList.length := by cases s; exact h
  simp only [numsOf, List.getElem?_map, List.getElem?_eq_getElem this]
  rfl
theorem isHex_iff {c : Int} : isHex c = true ↔ (48 ≤ c ∧ c ≤ 57) ∨ (97 ≤ c ∧ c ≤ 102) := by simp [isHex]
theorem hexN_rng (c : Int) : 0 ≤ hexN c ∧ hexN c ≤ 15 := by unfold hexN; split <;> (try split) <;> omega
theorem ofI_hex {n : Int} (h : 0 ≤ n ∧ n < 16) : isHex (ofI n) = true ∧ hexN (ofI n) = n ∧ 48 ≤ ofI n ∧ ofI n < 103 := by
  unfold ofI
  split
  · refine ⟨isHex_iff.2 (by omega), ?_, by omega, by omega⟩
    unfold hexN; rw [if_pos (by omega)]; omega
  · refine ⟨isHex_iff.2 (by omega), ?_, by omega, by omega⟩
    unfold hexN; rw [if_neg (by omega), if_pos (by omega)]; omega
theorem ofI_hexN {c : Int} (h : isHex c = true) : ofI (hexN c) = c := by
  rw [isHex_iff] at h
  unfold ofI hexN
  by_cases h1 : 48 ≤ c ∧ c ≤ 57
  · rw [if_pos h1, if_pos (by omega)]; omega
  · have h2 : 97 ≤ c ∧ c ≤ 102 := by omega
    rw [if_neg h1, if_pos h2, if_neg (by omega)]; omega
theorem ofI_lt {a b : Int} (h : a < b) : ofI a < ofI b := by unfold ofI; split <;> split <;> omega
theorem putL_append (a b : List Int) : putL (a ++ b) = putL a ++ putL b := by
  induction a with
  | nil => rfl
  | cons x xs ih => simp [putL, ih]
theorem putL_length (l : List Int) : (putL l).length = 2 * l.length := by
  induction l with
  | nil => rfl
  | cons x xs ih => simp only [putL, List.length_cons, ih]; omega
theorem putL_b8 {l : List Int} (h : B8 l) : B8 (putL l) := by
  induction l with
  | nil => intro x hx; cases hx
  | cons x xs ih =>
    have h0 := h x (by simp)
    have h1 := (ofI_hex (n := x / 16) (by omega)).2.2
    have h2 := (ofI_hex (n := x % 16) (by omega)).2.2
    intro y hy
    simp only [putL, List.mem_cons] at hy
    rcases hy with rfl | rfl | hy
    · omega
    · omega
    · exact ih (fun z hz => h z (by simp [hz])) y hy
theorem isL_put {l : List Int} (h : B8 l) : isL (putL l) = true := by
  induction l with
  | nil => rfl
  | cons x xs ih =>
    have h0 := h x (by simp)
    have h1 := (ofI_hex (n := x / 16) (by omega)).1
    have h2 := (ofI_hex (n := x % 16) (by omega)).1
    have := ih (fun z hz => h z (by simp [hz]))
    unfold isL at this ⊢
    simp [putL, h1, h2, this]
theorem get_put {l : List Int} (h : B8 l) : getL (putL l) = l := by
  induction l with
  | nil => rfl
  | cons x xs ih =>
    have h0 := h x (by simp)
    have h1 := (ofI_hex (n := x / 16) (by omega)).2.1
    have h2 := (ofI_hex (n := x % 16) (by omega)).2.1
    have := ih (fun z hz => h z (by simp [hz]))
    simp only [putL, getL, h1, h2, this]
    rw [show 16 * (x / 16) + x % 16 = x from by omega]
theorem put_get : ∀ {l : List Int}, isL l = true → l.length % 2 = 0 → putL (getL l) = l
  | [], _, _ => rfl
  | [a], _, h => by simp at h
  | a :: b :: t, h, h2 => by
    have h3 : isHex a = true ∧ isHex b = true ∧ isL t = true := by simpa [isL] using h
    have ha := hexN_rng a
    have hb := hexN_rng b
    have := put_get h3.2.2 (by simp at h2; omega)
    simp only [getL, putL, this]
    rw [show (16 * hexN a + hexN b) / 16 = hexN a from by omega, show (16 * hexN a + hexN b) % 16 = hexN b from by omega, ofI_hexN h3.1, ofI_hexN h3.2.1]
theorem getL_b8 : ∀ l : List Int, B8 (getL l)
  | [] => by intro x hx; cases hx
  | [a] => by intro x hx; cases hx
  | a :: b :: t => by
    have ha := hexN_rng a
    have hb := hexN_rng b
    intro x hx
    simp only [getL, List.mem_cons] at hx
    rcases hx with rfl | hx
    · omega
    · exact getL_b8 t x hx
theorem getL_length : ∀ l : List Int, (getL l).length = l.length / 2
  | [] => rfl
  | [a] => by simp [getL]
  | a :: b :: t => by simp only [getL, List.length_cons, getL_length t]; omega
/-! order -/
theorem u8_lt {x y : Int} (hx : 0 ≤ x ∧ x < 256) (hy : 0 ≤ y ∧ y < 256) : (UInt8.ofNat x.toNat < UInt8.ofNat y.toNat) = (x < y) := by
  rw [UInt8.lt_iff_toNat_lt, UInt8.toNat_ofNat_of_lt' (by show x.toNat < 256; omega), UInt8.toNat_ofNat_of_lt' (by show y.toNat < 256; omega)]
  apply propext; omega
theorem u8_eq {x y : Int} (hx : 0 ≤ x ∧ x < 256) (hy : 0 ≤ y ∧ y < 256) : (UInt8.ofNat x.toNat = UInt8.ofNat y.toNat) = (x = y) := by
  apply propext
  rw [← UInt8.toNat_inj, UInt8.toNat_ofNat_of_lt' (by show x.toNat < 256; omega), UInt8.toNat_ofNat_of_lt' (by show y.toNat < 256; omega)]
  omega
def lessI : List Int → List Int → Bool
  | _, [] => false
  | [], _ :: _ => true
  | a :: x, b :: y => decide (a < b) || (decide (a = b) && lessI x y)
theorem less_str : ∀ {a b : List Int}, B8 a → B8 b → Op.bytesLess (strOfNums a).toList (strOfNums b).toList = lessI a b
  | _, [], _, _ => by simp only [strOfNums]; rw [ByteArray.toList_mk, ByteArray.toList_mk]; simp [Op.bytesLess, lessI]
  | [], b :: y, _, _ => by simp only [strOfNums]; rw [ByteArray.toList_mk, ByteArray.toList_mk]; simp [Op.bytesLess, lessI]
  | a :: x, b :: y, ha, hb => by
    have := less_str (a := x) (b := y) (fun z hz => ha z (by simp [hz])) (fun z hz => hb z (by simp [hz]))
    simp only [strOfNums] at this ⊢
    rw [ByteArray.toList_mk, ByteArray.toList_mk] at this ⊢
    have h1 := u8_lt (ha a (by simp)) (hb b (by simp))
    have h2 := u8_eq (ha a (by simp)) (hb b (by simp))
    simp only [List.map_cons, Op.bytesLess, lessI, this]
    rw [Bool.beq_eq_decide_eq]
    simp only [h1, h2]
theorem lessI_put : ∀ {a b : List Int}, B8 a → B8 b → lessI (putL a) (putL b) = lessI a b
  | [], [], _, _ => rfl
  | _ :: _, [], _, _ => rfl
  | [], _ :: _, _, _ => rfl
  | a :: x, b :: y, ha, hb => by
    have ih := lessI_put (a := x) (b := y) (fun z hz => ha z (by simp [hz])) (fun z hz => hb z (by simp [hz]))
    have a0 := ha a (by simp)
    have b0 := hb b (by simp)
    simp only [putL, lessI, ih]
    rcases Int.lt_trichotomy a b with h | h | h
    · rcases Int.lt_or_eq_of_le (show a / 16 ≤ b / 16 by omega) with h1 | h1
      · have := ofI_lt h1
        simp [h, this]
      · have := ofI_lt (show a % 16 < b % 16 by omega)
        simp [h, h1, this]
    · subst h; simp
    · have hn : ¬ a < b := by omega
      have hne : ¬ a = b := by omega
      rcases Int.lt_or_eq_of_le (show b / 16 ≤ a / 16 by omega) with h1 | h1
      · have := ofI_lt h1
        simp [hn, hne, show ¬ ofI (a / 16) < ofI (b / 16) by omega, show ¬ ofI (a / 16) = ofI (b / 16) by omega]
      · have := ofI_lt (show b % 16 < a % 16 by omega)
        simp [hn, hne, h1, show ¬ ofI (a % 16) < ofI (b % 16) by omega, show ¬ ofI (a % 16) = ofI (b % 16) by omega]
theorem str_append (a b : List Int) : strOfNums (a ++ b) = strOfNums a ++ strOfNums b := by
  unfold strOfNums
  rw [List.map_append]
  apply ByteArray.ext
  simp [ByteArray.data_append]
theorem str_inj {a b : List Int} (ha : B8 a) (hb : B8 b) (h : strOfNums a = strOfNums b) : a = b := by rw [← numsOf_str ha, h, numsOf_str hb]
end Go.Proofs.Ytonblhannoinfaa
