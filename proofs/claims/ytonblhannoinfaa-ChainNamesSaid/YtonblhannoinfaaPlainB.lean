/- Plain facts on words of bytes and bytes of words. No program here. -/
import Derived.Test.YtonblhannoinfaaPlainA
namespace Go.Proofs.Ytonblhannoinfaa
/-- byte i of a list, 0 behind its end -/
def byteAt (l : List Int) (i : Nat) : Int := l.getD i 0
def wordAt (l : List Int) (j : Nat) : Int := 16777216 * byteAt l (4 * j) + 65536 * byteAt l (4 * j + 1) + 256 * byteAt l (4 * j + 2) + byteAt l (4 * j + 3)
def wordsL (l : List Int) (m : Nat) : List Int := (List.range m).map (wordAt l)
theorem wordsL_succ (l : List Int) (m : Nat) : wordsL l (m + 1) = wordsL l m ++ [wordAt l m] := by simp [wordsL, List.range_succ]
theorem wordsL_length (l : List Int) (m : Nat) : (wordsL l m).length = m := by simp [wordsL]
def Bytes8 (l : List Int) : Prop := ∀ x ∈ l, 0 ≤ x ∧ x < 256
theorem byteAt_bd {l : List Int} (h : Bytes8 l) (i : Nat) : 0 ≤ byteAt l i ∧ byteAt l i < 256 := by
  unfold byteAt
  rw [List.getD_eq_getElem?_getD]
  cases hx : l[i]? with
  | none => simp
  | some x => exact h x (List.mem_of_getElem? hx)
theorem byteAt_get {l : List Int} {i : Nat} {x : Int} (h : l[i]? = some x) : byteAt l i = x := by
  unfold byteAt; rw [List.getD_eq_getElem?_getD, h]; rfl
/-- word j, when r of its bytes have come -/
def part (l : List Int) (j : Nat) : Nat → Int
  | 0 => 0
  | r + 1 => part l j r * 256 + byteAt l (4 * j + r)
theorem part_four (l : List Int) (j : Nat) : part l j 4 = wordAt l j := by
  simp only [part, wordAt, Nat.add_zero]; omega
theorem part_bd {l : List Int} (h : Bytes8 l) (j r : Nat) (hr : r < 4) : 0 ≤ part l j r ∧ part l j r < 16777216 := by
  have h0 := byteAt_bd h (4 * j)
  have h1 := byteAt_bd h (4 * j + 1)
  have h2 := byteAt_bd h (4 * j + 2)
  match r, hr with
  | 0, _ => simp [part]
  | 1, _ => simp only [part, Nat.add_zero]; omega
  | 2, _ => simp only [part, Nat.add_zero]; omega
  | 3, _ => simp only [part, Nat.add_zero]; omega
theorem shl_or (p x : Int) (hp : 0 ≤ p ∧ p < 16777216) (hx : 0 ≤ x ∧ x < 256) : bits .or .u32 (p * 256) x = p * 256 + x := by
  obtain ⟨P, rfl⟩ := Int.eq_ofNat_of_zero_le hp.1
  obtain ⟨X, rfl⟩ := Int.eq_ofNat_of_zero_le hx.1
  have e : ((P : Int) * 256) = ((P * 256 : Nat) : Int) := by omega
  rw [e, u32_or_nat _ _ (by omega) (by omega), nat_join 8 _ _ (by omega) (by omega)]
  omega
/-- the row of m words when k bytes have come -/
def outRow (l : List Int) (m k : Nat) : List Int := (List.range m).map fun j => part l j (min 4 (k - 4 * j))
theorem outRow_zero (l : List Int) (m : Nat) : outRow l m 0 = List.replicate m 0 := by
  apply List.ext_getElem (by simp [outRow])
  intro i h1 h2
  simp [outRow, part]
theorem outRow_length (l : List Int) (m k : Nat) : (outRow l m k).length = m := by simp [outRow]
theorem outRow_get (l : List Int) (m k : Nat) (hk : k < 4 * m) : (outRow l m k)[k / 4]? = some (part l (k / 4) (k % 4)) := by
  unfold outRow
  rw [List.getElem?_map, List.getElem?_range (by omega)]
  have e : min 4 (k - 4 * (k / 4)) = k % 4 := by omega
  simp [e]
theorem outRow_set (l : List Int) (m k : Nat) : (outRow l m k).set (k / 4) (part l (k / 4) (k % 4) * 256 + byteAt l k) = outRow l m (k + 1) := by
  apply List.ext_getElem (by simp [outRow])
  intro i h1 h2
  simp only [List.getElem_set, outRow, List.getElem_map, List.getElem_range]
  split
  · rename_i h
    subst h
    have e : min 4 (k + 1 - 4 * (k / 4)) = k % 4 + 1 := by omega
    have e2 : 4 * (k / 4) + k % 4 = k := by omega
    rw [e]
    simp only [part, e2]
  · rename_i h
    have e : min 4 (k - 4 * i) = min 4 (k + 1 - 4 * i) := by omega
    rw [e]
theorem outRow_end (l : List Int) (m : Nat) : outRow l m (4 * m) = wordsL l m := by
  apply List.ext_getElem (by simp [outRow, wordsL])
  intro i h1 h2
  have hi : i < m := by simpa [outRow] using h1
  have e : min 4 (4 * m - 4 * i) = 4 := by omega
  simp only [outRow, wordsL, List.getElem_map, List.getElem_range, e, part_four]

/-- the words of bytes, and the error, as they are answered -/
def ofWds (l : List Int) : List Int := if l.length ≤ 16384 ∧ l.length % 4 = 0 then wordsL l (l.length / 4) else []
def ofErr (n : Nat) : Int := if 16384 < n then 4 else if n % 4 = 0 then 0 else 2
theorem wordAt_bd {l : List Int} (h : Bytes8 l) (j : Nat) : 0 ≤ wordAt l j ∧ wordAt l j < 4294967296 := by
  have h0 := byteAt_bd h (4 * j)
  have h1 := byteAt_bd h (4 * j + 1)
  have h2 := byteAt_bd h (4 * j + 2)
  have h3 := byteAt_bd h (4 * j + 3)
  unfold wordAt
  omega
/-- a word's bytes -/
def bytesI (x : Int) : List Int := [x / 16777216 % 256, x / 65536 % 256, x / 256 % 256, x % 256]
def bytesL (l : List Int) : List Int := l.flatMap bytesI
theorem bytesL_snoc (l : List Int) (k : Nat) (x : Int) (h : l[k]? = some x) : bytesL (l.take (k + 1)) = bytesL (l.take k) ++ bytesI x := by
  unfold bytesL
  rw [List.take_add_one, h]
  simp
theorem bytesI_get (x : Int) (j : Nat) (hj : j < 4) : (bytesI x).take (j + 1) = (bytesI x).take j ++ [x / 2 ^ (24 - 8 * j) % 256] := by
  match j, hj with
  | 0, _ => rfl
  | 1, _ => rfl
  | 2, _ => rfl
  | 3, _ => simp [bytesI]
theorem bytesL_length (l : List Int) : (bytesL l).length = 4 * l.length := by
  unfold bytesL
  induction l with
  | nil => rfl
  | cons x l ih => simp only [List.flatMap_cons, List.length_append, ih, bytesI, List.length_cons, List.length_nil]; omega
theorem bytesL_bd (l : List Int) : Bytes8 (bytesL l) := by
  intro x hx
  unfold bytesL at hx
  obtain ⟨y, _, hy⟩ := List.mem_flatMap.1 hx
  simp only [bytesI, List.mem_cons, List.not_mem_nil, or_false] at hy
  omega
/-! ### there and back -/
theorem byteAt_bytesL (l : List Int) : ∀ (j r : Nat), r < 4 → byteAt (bytesL l) (4 * j + r) = byteAt (bytesI (byteAt l j)) r := by
  induction l with
  | nil =>
    intro j r hr
    have h0 : byteAt ([] : List Int) j = 0 := by simp [byteAt]
    rw [h0]
    have h1 : byteAt (bytesL []) (4 * j + r) = 0 := by simp [byteAt, bytesL]
    rw [h1]
    match r, hr with
    | 0, _ => rfl
    | 1, _ => rfl
    | 2, _ => rfl
    | 3, _ => rfl
  | cons x l ih =>
    intro j r hr
    have hb : bytesL (x :: l) = bytesI x ++ bytesL l := by simp [bytesL]
    have hlen : (bytesI x).length = 4 := rfl
    cases j with
    | zero =>
      rw [hb, Nat.mul_zero, Nat.zero_add]
      have e : byteAt (x :: l) 0 = x := rfl
      rw [e]
      unfold byteAt
      rw [List.getD_eq_getElem?_getD, List.getD_eq_getElem?_getD, List.getElem?_append_left (by rw [hlen]; exact hr)]
    | succ j =>
      rw [hb]
      have e : byteAt (x :: l) (j + 1) = byteAt l j := rfl
      rw [e, ← ih j r hr]
      unfold byteAt
      rw [List.getD_eq_getElem?_getD, List.getD_eq_getElem?_getD, List.getElem?_append_right (by rw [hlen]; omega), hlen, show 4 * (j + 1) + r - 4 = 4 * j + r from by omega]
theorem wordAt_bytesL (l : List Int) (hl : ∀ x ∈ l, 0 ≤ x ∧ x < 4294967296) (j : Nat) : wordAt (bytesL l) j = byteAt l j := by
  have hx : 0 ≤ byteAt l j ∧ byteAt l j < 4294967296 := by
    unfold byteAt
    rw [List.getD_eq_getElem?_getD]
    cases h : l[j]? with
    | none => simp
    | some x => exact hl x (List.mem_of_getElem? h)
  unfold wordAt
  have e0 := byteAt_bytesL l j 0 (by omega)
  have e1 := byteAt_bytesL l j 1 (by omega)
  have e2 := byteAt_bytesL l j 2 (by omega)
  have e3 := byteAt_bytesL l j 3 (by omega)
  rw [Nat.add_zero] at e0
  rw [e0, e1, e2, e3]
  generalize byteAt l j = x at *
  show 16777216 * (x / 16777216 % 256) + 65536 * (x / 65536 % 256) + 256 * (x / 256 % 256) + x % 256 = x
  omega
theorem ofWds_bytesL (l : List Int) (hl : ∀ x ∈ l, 0 ≤ x ∧ x < 4294967296) (hn : l.length ≤ 4096) : ofWds (bytesL l) = l := by
  have hlen := bytesL_length l
  unfold ofWds
  rw [if_pos (by omega)]
  have e : (bytesL l).length / 4 = l.length := by omega
  rw [e]
  apply List.ext_getElem (by simp [wordsL])
  intro i h1 h2
  simp only [wordsL, List.getElem_map, List.getElem_range]
  rw [wordAt_bytesL l hl]
  unfold byteAt
  rw [List.getD_eq_getElem?_getD, List.getElem?_eq_getElem h2]
  rfl
theorem bytesI_wordAt {b : List Int} (hb : Bytes8 b) (j : Nat) : bytesI (wordAt b j) = [byteAt b (4 * j), byteAt b (4 * j + 1), byteAt b (4 * j + 2), byteAt b (4 * j + 3)] := by
  have h0 := byteAt_bd hb (4 * j)
  have h1 := byteAt_bd hb (4 * j + 1)
  have h2 := byteAt_bd hb (4 * j + 2)
  have h3 := byteAt_bd hb (4 * j + 3)
  unfold bytesI wordAt
  have e0 : (16777216 * byteAt b (4 * j) + 65536 * byteAt b (4 * j + 1) + 256 * byteAt b (4 * j + 2) + byteAt b (4 * j + 3)) / 16777216 % 256 = byteAt b (4 * j) := by omega
  have e1 : (16777216 * byteAt b (4 * j) + 65536 * byteAt b (4 * j + 1) + 256 * byteAt b (4 * j + 2) + byteAt b (4 * j + 3)) / 65536 % 256 = byteAt b (4 * j + 1) := by omega
  have e2 : (16777216 * byteAt b (4 * j) + 65536 * byteAt b (4 * j + 1) + 256 * byteAt b (4 * j + 2) + byteAt b (4 * j + 3)) / 256 % 256 = byteAt b (4 * j + 2) := by omega
  have e3 : (16777216 * byteAt b (4 * j) + 65536 * byteAt b (4 * j + 1) + 256 * byteAt b (4 * j + 2) + byteAt b (4 * j + 3)) % 256 = byteAt b (4 * j + 3) := by omega
  rw [e0, e1, e2, e3]
theorem bytesL_wordsL {b : List Int} (hb : Bytes8 b) : ∀ m, 4 * m ≤ b.length → bytesL (wordsL b m) = b.take (4 * m) := by
  intro m
  induction m with
  | zero => intro _; rfl
  | succ m ih =>
    intro h
    rw [wordsL_succ]
    have e : bytesL (wordsL b m ++ [wordAt b m]) = bytesL (wordsL b m) ++ bytesI (wordAt b m) := by simp [bytesL]
    rw [e, ih (by omega), bytesI_wordAt hb]
    have t : ∀ k, k < b.length → b.take (k + 1) = b.take k ++ [byteAt b k] := by
      intro k hk
      rw [List.take_add_one, List.getElem?_eq_getElem hk]
      unfold byteAt
      rw [List.getD_eq_getElem?_getD, List.getElem?_eq_getElem hk]
      rfl
    rw [show 4 * (m + 1) = 4 * m + 1 + 1 + 1 + 1 from by omega, t _ (by omega), t _ (by omega), t _ (by omega), t _ (by omega)]
    simp
theorem bytesL_ofWds {b : List Int} (hb : Bytes8 b) (h : b.length ≤ 16384) (h4 : b.length % 4 = 0) : bytesL (ofWds b) = b := by
  unfold ofWds
  rw [if_pos ⟨h, h4⟩, bytesL_wordsL hb _ (by omega), List.take_of_length_le (by omega)]
theorem ofWds_bd {b : List Int} (hb : Bytes8 b) : ∀ x ∈ ofWds b, 0 ≤ x ∧ x < 4294967296 := by
  intro x hx
  unfold ofWds at hx
  split at hx
  · simp only [wordsL, List.mem_map] at hx
    obtain ⟨j, _, rfl⟩ := hx
    exact wordAt_bd hb j
  · cases hx
theorem ofWds_len (b : List Int) : (ofWds b).length ≤ 4096 := by
  unfold ofWds
  split
  · rw [wordsL_length]; omega
  · simp
end Go.Proofs.Ytonblhannoinfaa
