/- Plain facts on words of 32 bits: turns, sums, and what is put together, the program's way and the document's way. No program here; no condition but that words are from 0 to 4294967295. -/
import Derived.Laws.BitsAllLaws
namespace Go.Proofs.Ytonblhannoinfaa

def turnI (x n : Int) : Int := bits .or .u32 (x * 2 ^ (n % 32).toNat % 4294967296) (x / 2 ^ (32 - n % 32).toNat)
def chooseI (x y z : Int) : Int := bits .xor .u32 z (bits .and .u32 x (bits .xor .u32 y z))
def mostI (x y z : Int) : Int := bits .or .u32 (bits .and .u32 x y) (bits .and .u32 z (bits .or .u32 x y))
def addI (x y : Int) : Int := (x + y) % 4294967296
def foldI (g : Int → Int → Int) (l : List Int) : Int := l.foldl g 0
def sumI (l : List Int) : Int := foldI addI l
def oddI (x y z : Int) : Int := foldI (bits .xor .u32) [x, y, z]
def upI (x : Int) : Int := x * 2 % 4294967296 + x / 2147483648
def ups (x : Int) : Nat → Int
  | 0 => x
  | k + 1 => upI (ups x k)
/-- one bit of three put together: 1 chosen, 2 odd, 3 most -/
def oneI (how a b c : Int) : Int := if how = 3 then (a + b + c) / 2 else if how = 2 then (a + b + c) % 2 else if a = 1 then b else c
def bitI (x : Int) (n : Nat) : Int := x / 2 ^ n % 2
def thr (how x y z : Int) : Nat → Int
  | 0 => 0
  | k + 1 => 2 * thr how x y z k + oneI how (bitI x (31 - k)) (bitI y (31 - k)) (bitI z (31 - k))

theorem foldI_addI_bd (l : List Int) : 0 ≤ foldI addI l ∧ foldI addI l < 4294967296 := by
  unfold foldI
  suffices h : ∀ (l : List Int) (a : Int), 0 ≤ a ∧ a < 4294967296 → 0 ≤ l.foldl addI a ∧ l.foldl addI a < 4294967296 from h l 0 (by omega)
  intro l
  induction l with
  | nil => intro a h; exact h
  | cons x l ih => intro a _; exact ih _ (by unfold addI; omega)
theorem foldI_snoc (g : Int → Int → Int) (l : List Int) (k : Nat) (x : Int) (h : l[k]? = some x) : foldI g (l.take (k+1)) = g (foldI g (l.take k)) x := by
  unfold foldI
  rw [List.take_add_one, h]
  simp
theorem upI_bd (x : Int) (h0 : 0 ≤ x) (h1 : x < 4294967296) : 0 ≤ upI x ∧ upI x < 4294967296 := by unfold upI; omega
theorem ups_bd (x : Int) (h0 : 0 ≤ x) (h1 : x < 4294967296) (k : Nat) : 0 ≤ ups x k ∧ ups x k < 4294967296 := by
  cases k with
  | zero => exact ⟨h0, h1⟩
  | succ k => have := ups_bd x h0 h1 k; exact upI_bd _ this.1 this.2
theorem bitI_bd (x : Int) (n : Nat) : 0 ≤ bitI x n ∧ bitI x n ≤ 1 := by unfold bitI; omega
theorem oneI_bd (how a b c : Int) (ha : 0 ≤ a ∧ a ≤ 1) (hb : 0 ≤ b ∧ b ≤ 1) (hc : 0 ≤ c ∧ c ≤ 1) : 0 ≤ oneI how a b c ∧ oneI how a b c ≤ 1 := by
  unfold oneI; split
  · omega
  · split
    · omega
    · split <;> omega
theorem thr_bd (how x y z : Int) (k : Nat) : 0 ≤ thr how x y z k ∧ thr how x y z k < 2 ^ k := by
  induction k with
  | zero => simp [thr]
  | succ k ih =>
    have := oneI_bd how _ _ _ (bitI_bd x (31 - k)) (bitI_bd y (31 - k)) (bitI_bd z (31 - k))
    simp only [thr]
    rw [Int.pow_succ]
    omega
theorem thr_small (how x y z : Int) (k : Nat) (hk : k ≤ 32) : 0 ≤ thr how x y z k ∧ thr how x y z k < 4294967296 := by
  have h := thr_bd how x y z k
  have h3 : (2 : Int) ^ k ≤ 2 ^ 32 := by exact_mod_cast Nat.pow_le_pow_right (by omega : 0 < 2) hk
  omega

/-! ### as bits -/
abbrev W32 := BitVec 32
def ofW (X : W32) : Int := (X.toNat : Int)
theorem ofW_bd (X : W32) : 0 ≤ ofW X ∧ ofW X < 4294967296 := by
  have := X.isLt; unfold ofW; omega
theorem ofW_inj {X Y : W32} (h : ofW X = ofW Y) : X = Y := by
  unfold ofW at h
  exact BitVec.eq_of_toNat_eq (by omega)
theorem ofW_eq {X Y : W32} : (ofW X == ofW Y) = (X == Y) := by
  rw [Bool.eq_iff_iff]; simp only [beq_iff_eq]; exact ⟨ofW_inj, fun h => by rw [h]⟩
theorem exW (x : Int) (h0 : 0 ≤ x) (h1 : x < 4294967296) : ∃ X : W32, x = ofW X := by
  refine ⟨BitVec.ofNat 32 x.toNat, ?_⟩
  unfold ofW
  rw [BitVec.toNat_ofNat, Nat.mod_eq_of_lt (by omega)]
  omega
theorem xor_W (X Y : W32) : bits .xor .u32 (ofW X) (ofW Y) = ofW (X ^^^ Y) := by
  unfold ofW
  rw [u32_xor_nat _ _ X.isLt Y.isLt, BitVec.toNat_xor]
theorem and_W (X Y : W32) : bits .and .u32 (ofW X) (ofW Y) = ofW (X &&& Y) := by
  unfold ofW
  rw [u32_and_nat _ _ X.isLt Y.isLt, BitVec.toNat_and]
theorem or_W (X Y : W32) : bits .or .u32 (ofW X) (ofW Y) = ofW (X ||| Y) := by
  unfold ofW
  rw [u32_or_nat _ _ X.isLt Y.isLt, BitVec.toNat_or]
theorem add_W (X Y : W32) : addI (ofW X) (ofW Y) = ofW (X + Y) := by
  unfold ofW addI
  rw [BitVec.toNat_add]
  simp
def chooseW (X Y Z : W32) : W32 := Z ^^^ (X &&& (Y ^^^ Z))
def mostW (X Y Z : W32) : W32 := (X &&& Y) ||| (Z &&& (X ||| Y))
def oddW (X Y Z : W32) : W32 := 0 ^^^ X ^^^ Y ^^^ Z
theorem choose_W (X Y Z : W32) : chooseI (ofW X) (ofW Y) (ofW Z) = ofW (chooseW X Y Z) := by
  unfold chooseI chooseW; rw [xor_W, and_W, xor_W]
theorem most_W (X Y Z : W32) : mostI (ofW X) (ofW Y) (ofW Z) = ofW (mostW X Y Z) := by
  unfold mostI mostW; rw [or_W, and_W, and_W, or_W]
theorem odd_W (X Y Z : W32) : oddI (ofW X) (ofW Y) (ofW Z) = ofW (oddW X Y Z) := by
  have h : (0 : Int) = ofW 0 := rfl
  unfold oddI foldI oddW
  simp only [List.foldl_cons, List.foldl_nil]
  rw [h, xor_W, xor_W, xor_W]
def rot (n : Int) : Nat := (n % 32).toNat
theorem rot_lt (n : Int) : rot n < 32 := by unfold rot; omega
theorem turn_W (X : W32) (n : Int) : turnI (ofW X) n = ofW (X.rotateLeft (rot n)) := by
  have hr := rot_lt n
  have e2 : (32 - n % 32).toNat = 32 - rot n := by unfold rot; omega
  have e1 : (n % 32).toNat = rot n := rfl
  unfold turnI
  rw [e2, e1]
  generalize rot n = r at *
  have h1 : ofW X * 2 ^ r % 4294967296 = ofW (X <<< r) := by
    unfold ofW
    rw [BitVec.toNat_shiftLeft, Nat.shiftLeft_eq]
    simp
  have h2 : ofW X / 2 ^ (32 - r) = ofW (X >>> (32 - r)) := by
    unfold ofW
    rw [BitVec.toNat_ushiftRight, Nat.shiftRight_eq_div_pow]
    simp
  rw [h1, h2, or_W, BitVec.rotateLeft_def, Nat.mod_eq_of_lt hr]
theorem up_W (X : W32) : upI (ofW X) = ofW (X.rotateLeft 1) := by
  have h := turn_W X 1
  rw [show rot 1 = 1 from rfl] at h
  rw [← h]
  have hb := ofW_bd X
  generalize ofW X = x at *
  unfold turnI upI
  have e1 : ((1 : Int) % 32).toNat = 1 := rfl
  have e2 : (32 - (1 : Int) % 32).toNat = 31 := rfl
  rw [e1, e2]
  obtain ⟨A, rfl⟩ := Int.eq_ofNat_of_zero_le hb.1
  have hx : ((A : Int) * 2 ^ 1 % 4294967296) = ((A * 2 % 4294967296 : Nat) : Int) := by omega
  have hy : (A : Int) / 2 ^ 31 = ((A / 2147483648 : Nat) : Int) := by omega
  rw [hx, hy, u32_or_nat _ _ (by omega) (by omega), nat_join 1 _ _ (by omega) (by omega)]
  omega
theorem rot_rot (X : W32) (a b : Nat) (ha : a < 32) (hb : b < 32) : (X.rotateLeft a).rotateLeft b = X.rotateLeft ((a + b) % 32) := by
  apply BitVec.eq_of_getLsbD_eq
  intro i hi
  have hab : (a + b) % 32 = a + b ∨ (a + b) % 32 + 32 = a + b := by omega
  have ea : a % 32 = a := by omega
  have eb : b % 32 = b := by omega
  rw [BitVec.getLsbD_rotateLeft, BitVec.getLsbD_rotateLeft, BitVec.getLsbD_rotateLeft, BitVec.getLsbD_rotateLeft, ea, eb, Nat.mod_mod]
  have hc32 : (a + b) % 32 < 32 := by omega
  generalize (a + b) % 32 = c at *
  have hd : decide (i < 32) = true := by simpa using hi
  rw [hd]
  simp only [Bool.true_and, Bool.cond_decide]
  have key : ∀ p q : Nat, p = q → X.getLsbD p = X.getLsbD q := fun p q h => by rw [h]
  by_cases hib : i < b
  · rw [if_pos hib]
    by_cases h2 : 32 - b + i < a
    · rw [if_pos h2]
      split
      · exact key _ _ (by omega)
      · exact key _ _ (by omega)
    · have hd2 : decide (32 - b + i < 32) = true := by simp; omega
      rw [if_neg h2, hd2, Bool.true_and]
      split
      · exact key _ _ (by omega)
      · exact key _ _ (by omega)
  · rw [if_neg hib]
    by_cases h2 : i - b < a
    · rw [if_pos h2]
      split
      · exact key _ _ (by omega)
      · exact key _ _ (by omega)
    · have hd2 : decide (i - b < 32) = true := by simp; omega
      rw [if_neg h2, hd2, Bool.true_and]
      split
      · exact key _ _ (by omega)
      · exact key _ _ (by omega)
theorem rot_zero (X : W32) : X.rotateLeft 0 = X := by
  apply BitVec.eq_of_getLsbD_eq
  intro i hi
  rw [BitVec.getLsbD_rotateLeft]
  simp [hi]
theorem ups_W (X : W32) (k : Nat) (hk : k < 32) : ups (ofW X) k = ofW (X.rotateLeft k) := by
  induction k with
  | zero => rw [rot_zero]; rfl
  | succ k ih =>
    show upI (ups (ofW X) k) = _
    rw [ih (by omega), up_W, rot_rot _ _ _ (by omega) (by omega), Nat.mod_eq_of_lt hk]
theorem rot_xor (X Y : W32) (k : Nat) : (X ^^^ Y).rotateLeft k = X.rotateLeft k ^^^ Y.rotateLeft k := by
  apply BitVec.eq_of_getLsbD_eq
  intro i hi
  rw [BitVec.getLsbD_xor, BitVec.getLsbD_rotateLeft, BitVec.getLsbD_rotateLeft, BitVec.getLsbD_rotateLeft]
  simp only [Bool.cond_decide]
  split <;> simp [hi]
theorem rot_and (X Y : W32) (k : Nat) : (X &&& Y).rotateLeft k = X.rotateLeft k &&& Y.rotateLeft k := by
  apply BitVec.eq_of_getLsbD_eq
  intro i hi
  rw [BitVec.getLsbD_and, BitVec.getLsbD_rotateLeft, BitVec.getLsbD_rotateLeft, BitVec.getLsbD_rotateLeft]
  simp only [Bool.cond_decide]
  split <;> simp [hi]
theorem rot_or (X Y : W32) (k : Nat) : (X ||| Y).rotateLeft k = X.rotateLeft k ||| Y.rotateLeft k := by
  apply BitVec.eq_of_getLsbD_eq
  intro i hi
  rw [BitVec.getLsbD_or, BitVec.getLsbD_rotateLeft, BitVec.getLsbD_rotateLeft, BitVec.getLsbD_rotateLeft]
  simp only [Bool.cond_decide]
  split <;> simp [hi]
theorem rot_choose (X Y Z : W32) (k : Nat) : chooseW (X.rotateLeft k) (Y.rotateLeft k) (Z.rotateLeft k) = (chooseW X Y Z).rotateLeft k := by
  unfold chooseW; rw [rot_xor, rot_and, rot_xor]
theorem rot_most (X Y Z : W32) (k : Nat) : mostW (X.rotateLeft k) (Y.rotateLeft k) (Z.rotateLeft k) = (mostW X Y Z).rotateLeft k := by
  unfold mostW; rw [rot_or, rot_and, rot_and, rot_or]
theorem oddW_eq (X Y Z : W32) : oddW X Y Z = X ^^^ Y ^^^ Z := by unfold oddW; simp
theorem rot_odd (X Y Z : W32) (k : Nat) : oddW (X.rotateLeft k) (Y.rotateLeft k) (Z.rotateLeft k) = (oddW X Y Z).rotateLeft k := by
  rw [oddW_eq, oddW_eq, rot_xor, rot_xor]

/-! ### the document's way of putting three together -/
theorem bit_W (X : W32) (n : Nat) : bitI (ofW X) n = if X.getLsbD n then 1 else 0 := by
  unfold bitI ofW BitVec.getLsbD
  rw [Nat.testBit_eq_decide_div_mod_eq]
  have h : ((X.toNat : Int) / 2 ^ n % 2) = ((X.toNat / 2 ^ n % 2 : Nat) : Int) := by simp
  rw [h]
  have := Nat.mod_two_eq_zero_or_one (X.toNat / 2 ^ n)
  rcases this with h | h <;> rw [h] <;> simp
theorem thr_W (how : Int) (X Y Z R : W32) (h : ∀ i, i < 32 → bitI (ofW R) i = oneI how (bitI (ofW X) i) (bitI (ofW Y) i) (bitI (ofW Z) i)) (k : Nat) (hk : k ≤ 32) :
    thr how (ofW X) (ofW Y) (ofW Z) k = ofW R / 2 ^ (32 - k) := by
  induction k with
  | zero =>
    have := ofW_bd R
    simp only [thr]
    omega
  | succ k ih =>
    simp only [thr]
    rw [ih (by omega), ← h (31 - k) (by omega)]
    unfold bitI
    have e1 : 32 - k = (31 - k) + 1 := by omega
    have e2 : 32 - (k + 1) = 31 - k := by omega
    rw [e1, e2, Int.pow_succ, ← Int.ediv_ediv_of_nonneg (Int.pow_nonneg (by omega))]
    omega
theorem thr_all (how : Int) (X Y Z R : W32) (h : ∀ i, i < 32 → bitI (ofW R) i = oneI how (bitI (ofW X) i) (bitI (ofW Y) i) (bitI (ofW Z) i)) :
    thr how (ofW X) (ofW Y) (ofW Z) 32 = ofW R := by
  rw [thr_W how X Y Z R h 32 (by omega)]
  simp
theorem thr_choose (X Y Z : W32) : thr 1 (ofW X) (ofW Y) (ofW Z) 32 = ofW (chooseW X Y Z) := by
  apply thr_all
  intro i hi
  rw [bit_W, bit_W, bit_W, bit_W]
  unfold chooseW oneI
  rw [BitVec.getLsbD_xor, BitVec.getLsbD_and, BitVec.getLsbD_xor]
  cases X.getLsbD i <;> cases Y.getLsbD i <;> cases Z.getLsbD i <;> rfl
theorem thr_odd (X Y Z : W32) : thr 2 (ofW X) (ofW Y) (ofW Z) 32 = ofW (oddW X Y Z) := by
  rw [oddW_eq]
  apply thr_all
  intro i hi
  rw [bit_W, bit_W, bit_W, bit_W]
  unfold oneI
  rw [BitVec.getLsbD_xor, BitVec.getLsbD_xor]
  cases X.getLsbD i <;> cases Y.getLsbD i <;> cases Z.getLsbD i <;> rfl
theorem thr_most (X Y Z : W32) : thr 3 (ofW X) (ofW Y) (ofW Z) 32 = ofW (mostW X Y Z) := by
  apply thr_all
  intro i hi
  rw [bit_W, bit_W, bit_W, bit_W]
  unfold mostW oneI
  rw [BitVec.getLsbD_or, BitVec.getLsbD_and, BitVec.getLsbD_and, BitVec.getLsbD_or]
  cases X.getLsbD i <;> cases Y.getLsbD i <;> cases Z.getLsbD i <;> rfl

/-! ### words out of numbers -/
theorem turn_ups (x : Int) (hx : 0 ≤ x ∧ x < 4294967296) (n : Int) : turnI x n = ups x (n % 32).toNat := by
  obtain ⟨X, rfl⟩ := exW x hx.1 hx.2
  rw [turn_W]
  exact (ups_W X _ (rot_lt n)).symm
theorem turn_bd (x : Int) (hx : 0 ≤ x ∧ x < 4294967296) (n : Int) : 0 ≤ turnI x n ∧ turnI x n < 4294967296 := by
  obtain ⟨X, rfl⟩ := exW x hx.1 hx.2
  rw [turn_W]
  exact ofW_bd _
theorem choose_thr (x y z : Int) (hx : 0 ≤ x ∧ x < 4294967296) (hy : 0 ≤ y ∧ y < 4294967296) (hz : 0 ≤ z ∧ z < 4294967296) : chooseI x y z = thr 1 x y z 32 := by
  obtain ⟨X, rfl⟩ := exW x hx.1 hx.2
  obtain ⟨Y, rfl⟩ := exW y hy.1 hy.2
  obtain ⟨Z, rfl⟩ := exW z hz.1 hz.2
  rw [choose_W, thr_choose]
theorem odd_thr (x y z : Int) (hx : 0 ≤ x ∧ x < 4294967296) (hy : 0 ≤ y ∧ y < 4294967296) (hz : 0 ≤ z ∧ z < 4294967296) : oddI x y z = thr 2 x y z 32 := by
  obtain ⟨X, rfl⟩ := exW x hx.1 hx.2
  obtain ⟨Y, rfl⟩ := exW y hy.1 hy.2
  obtain ⟨Z, rfl⟩ := exW z hz.1 hz.2
  rw [odd_W, thr_odd]
theorem most_thr (x y z : Int) (hx : 0 ≤ x ∧ x < 4294967296) (hy : 0 ≤ y ∧ y < 4294967296) (hz : 0 ≤ z ∧ z < 4294967296) : mostI x y z = thr 3 x y z 32 := by
  obtain ⟨X, rfl⟩ := exW x hx.1 hx.2
  obtain ⟨Y, rfl⟩ := exW y hy.1 hy.2
  obtain ⟨Z, rfl⟩ := exW z hz.1 hz.2
  rw [most_W, thr_most]
theorem rot_tmod (n : Int) : rot (n.tmod 32) = rot n := by
  have := Int.tmod_eq_emod (a := n) (b := 32)
  unfold rot
  split at this <;> omega
theorem tmod_bd (n : Int) : -31 ≤ n.tmod 32 ∧ n.tmod 32 ≤ 31 := by
  have := Int.tmod_eq_emod (a := n) (b := 32)
  split at this <;> omega
theorem turn_tmod (x : Int) (hx : 0 ≤ x ∧ x < 4294967296) (n : Int) : turnI x (n.tmod 32) = turnI x n := by
  obtain ⟨X, rfl⟩ := exW x hx.1 hx.2
  rw [turn_W, turn_W, rot_tmod]
theorem turn_sum (x : Int) (hx : 0 ≤ x ∧ x < 4294967296) (n m : Int) : turnI (turnI x n) m = turnI x (n.tmod 32 + m.tmod 32) := by
  obtain ⟨X, rfl⟩ := exW x hx.1 hx.2
  rw [turn_W, turn_W, turn_W, rot_rot _ _ _ (rot_lt _) (rot_lt _)]
  congr 2
  have h1 := rot_tmod n
  have h2 := rot_tmod m
  unfold rot at *
  omega
theorem turn_back (x : Int) (hx : 0 ≤ x ∧ x < 4294967296) (n : Int) : turnI (turnI x n) (-(n.tmod 32)) = x := by
  obtain ⟨X, rfl⟩ := exW x hx.1 hx.2
  rw [turn_W, turn_W, rot_rot _ _ _ (rot_lt _) (rot_lt _)]
  have h1 := rot_tmod n
  have e : (rot n + rot (-(n.tmod 32))) % 32 = 0 := by unfold rot at *; omega
  rw [e, rot_zero]
theorem turn_32 (x : Int) (hx : 0 ≤ x ∧ x < 4294967296) : turnI x 32 = x := by
  obtain ⟨X, rfl⟩ := exW x hx.1 hx.2
  rw [turn_W, show rot 32 = 0 from rfl, rot_zero]
theorem turn_choose (x y z : Int) (hx : 0 ≤ x ∧ x < 4294967296) (hy : 0 ≤ y ∧ y < 4294967296) (hz : 0 ≤ z ∧ z < 4294967296) (n : Int) : chooseI (turnI x n) (turnI y n) (turnI z n) = turnI (chooseI x y z) n := by
  obtain ⟨X, rfl⟩ := exW x hx.1 hx.2
  obtain ⟨Y, rfl⟩ := exW y hy.1 hy.2
  obtain ⟨Z, rfl⟩ := exW z hz.1 hz.2
  rw [turn_W, turn_W, turn_W, choose_W, choose_W, turn_W, rot_choose]
theorem turn_odd (x y z : Int) (hx : 0 ≤ x ∧ x < 4294967296) (hy : 0 ≤ y ∧ y < 4294967296) (hz : 0 ≤ z ∧ z < 4294967296) (n : Int) : oddI (turnI x n) (turnI y n) (turnI z n) = turnI (oddI x y z) n := by
  obtain ⟨X, rfl⟩ := exW x hx.1 hx.2
  obtain ⟨Y, rfl⟩ := exW y hy.1 hy.2
  obtain ⟨Z, rfl⟩ := exW z hz.1 hz.2
  rw [turn_W, turn_W, turn_W, odd_W, odd_W, turn_W, rot_odd]
theorem turn_most (x y z : Int) (hx : 0 ≤ x ∧ x < 4294967296) (hy : 0 ≤ y ∧ y < 4294967296) (hz : 0 ≤ z ∧ z < 4294967296) (n : Int) : mostI (turnI x n) (turnI y n) (turnI z n) = turnI (mostI x y z) n := by
  obtain ⟨X, rfl⟩ := exW x hx.1 hx.2
  obtain ⟨Y, rfl⟩ := exW y hy.1 hy.2
  obtain ⟨Z, rfl⟩ := exW z hz.1 hz.2
  rw [turn_W, turn_W, turn_W, most_W, most_W, turn_W, rot_most]
/-! ### how they hang together -/
theorem ones_W : (4294967295 : Int) = ofW (BitVec.allOnes 32) := by decide
theorem zero_W : (0 : Int) = ofW 0 := rfl
theorem most_choose (x y z : Int) (hx : 0 ≤ x ∧ x < 4294967296) (hy : 0 ≤ y ∧ y < 4294967296) (hz : 0 ≤ z ∧ z < 4294967296) : mostI x y z = chooseI x (bits .or .u32 y z) (bits .and .u32 y z) := by
  obtain ⟨X, rfl⟩ := exW x hx.1 hx.2
  obtain ⟨Y, rfl⟩ := exW y hy.1 hy.2
  obtain ⟨Z, rfl⟩ := exW z hz.1 hz.2
  rw [or_W, and_W, most_W, choose_W]
  congr 1
  apply BitVec.eq_of_getLsbD_eq
  intro i _
  unfold mostW chooseW
  rw [BitVec.getLsbD_or, BitVec.getLsbD_and, BitVec.getLsbD_and, BitVec.getLsbD_or, BitVec.getLsbD_xor, BitVec.getLsbD_and, BitVec.getLsbD_and, BitVec.getLsbD_xor, BitVec.getLsbD_or, BitVec.getLsbD_and]
  cases X.getLsbD i <;> cases Y.getLsbD i <;> cases Z.getLsbD i <;> rfl
theorem odd_choose (x y z : Int) (hx : 0 ≤ x ∧ x < 4294967296) (hy : 0 ≤ y ∧ y < 4294967296) (hz : 0 ≤ z ∧ z < 4294967296) : oddI x y z = chooseI x (oddI 4294967295 y z) (oddI 0 y z) := by
  obtain ⟨X, rfl⟩ := exW x hx.1 hx.2
  obtain ⟨Y, rfl⟩ := exW y hy.1 hy.2
  obtain ⟨Z, rfl⟩ := exW z hz.1 hz.2
  rw [ones_W, zero_W, odd_W, odd_W, odd_W, choose_W]
  congr 1
  apply BitVec.eq_of_getLsbD_eq
  intro i hi
  rw [oddW_eq, oddW_eq, oddW_eq]
  unfold chooseW
  have h0 : BitVec.getLsbD (0 : W32) i = false := by simp
  simp only [BitVec.getLsbD_xor, BitVec.getLsbD_and, BitVec.getLsbD_allOnes, hi, decide_true, h0]
  cases X.getLsbD i <;> cases Y.getLsbD i <;> cases Z.getLsbD i <;> rfl
theorem choose_ones (y z : Int) (hy : 0 ≤ y ∧ y < 4294967296) (hz : 0 ≤ z ∧ z < 4294967296) : chooseI 4294967295 y z = y := by
  obtain ⟨Y, rfl⟩ := exW y hy.1 hy.2
  obtain ⟨Z, rfl⟩ := exW z hz.1 hz.2
  rw [ones_W, choose_W]
  congr 1
  apply BitVec.eq_of_getLsbD_eq
  intro i hi
  unfold chooseW
  rw [BitVec.getLsbD_xor, BitVec.getLsbD_and, BitVec.getLsbD_xor, BitVec.getLsbD_allOnes]
  simp only [hi, decide_true]
  cases Y.getLsbD i <;> cases Z.getLsbD i <;> rfl
theorem choose_zero (y z : Int) (hy : 0 ≤ y ∧ y < 4294967296) (hz : 0 ≤ z ∧ z < 4294967296) : chooseI 0 y z = z := by
  obtain ⟨Y, rfl⟩ := exW y hy.1 hy.2
  obtain ⟨Z, rfl⟩ := exW z hz.1 hz.2
  rw [zero_W, choose_W]
  congr 1
  unfold chooseW
  simp
theorem most_same (x z : Int) (hx : 0 ≤ x ∧ x < 4294967296) (hz : 0 ≤ z ∧ z < 4294967296) : mostI x x z = x := by
  obtain ⟨X, rfl⟩ := exW x hx.1 hx.2
  obtain ⟨Z, rfl⟩ := exW z hz.1 hz.2
  rw [most_W]
  congr 1
  apply BitVec.eq_of_getLsbD_eq
  intro i _
  unfold mostW
  rw [BitVec.getLsbD_or, BitVec.getLsbD_and, BitVec.getLsbD_and, BitVec.getLsbD_or]
  cases X.getLsbD i <;> cases Z.getLsbD i <;> rfl
/-! ### sums -/
theorem foldl_addI (l : List Int) (a : Int) : l.foldl addI a % 4294967296 = (a + l.foldl (· + ·) 0) % 4294967296 := by
  induction l generalizing a with
  | nil => simp
  | cons x l ih =>
    have h0 : ∀ (l : List Int) (b : Int), l.foldl (· + ·) b = b + l.foldl (· + ·) 0 := by
      intro l
      induction l with
      | nil => intro b; simp
      | cons y l ihl => intro b; simp only [List.foldl_cons]; rw [ihl, ihl (0 + y)]; omega
    simp only [List.foldl_cons]
    rw [ih, h0 l (0 + x)]
    unfold addI
    omega
def rawSum (l : List Int) : Int := l.foldl (· + ·) 0
theorem rawSum_cons (x : Int) (l : List Int) : rawSum (x :: l) = x + rawSum l := by
  unfold rawSum
  have h0 : ∀ (l : List Int) (b : Int), l.foldl (· + ·) b = b + l.foldl (· + ·) 0 := by
    intro l
    induction l with
    | nil => intro b; simp
    | cons y l ihl => intro b; simp only [List.foldl_cons]; rw [ihl, ihl (0 + y)]; omega
  simp only [List.foldl_cons]
  rw [h0]; omega
theorem rawSum_append (l k : List Int) : rawSum (l ++ k) = rawSum l + rawSum k := by
  induction l with
  | nil => simp [rawSum]
  | cons x l ih => rw [List.cons_append, rawSum_cons, rawSum_cons, ih]; omega
theorem sumI_raw (l : List Int) : sumI l = rawSum l % 4294967296 := by
  have h := foldl_addI l 0
  have hb := foldI_addI_bd l
  unfold sumI foldI rawSum at *
  rw [Int.emod_eq_of_lt hb.1 hb.2] at h
  simpa using h
theorem sumI_turned (l : List Int) (k : Nat) : sumI (l.drop k ++ l.take k) = sumI l := by
  have h : rawSum (l.take k) + rawSum (l.drop k) = rawSum l := by rw [← rawSum_append, List.take_append_drop]
  rw [sumI_raw, sumI_raw, rawSum_append]
  congr 1; omega
theorem sumI_two (l : List Int) (k : Nat) : sumI [sumI (l.take k), sumI (l.drop k)] = sumI l := by
  have h : rawSum (l.take k) + rawSum (l.drop k) = rawSum l := by rw [← rawSum_append, List.take_append_drop]
  rw [sumI_raw [sumI (l.take k), sumI (l.drop k)], rawSum_cons, rawSum_cons, sumI_raw, sumI_raw, sumI_raw l]
  have e : rawSum [] = 0 := rfl
  rw [e]
  omega
end Go.Proofs.Ytonblhannoinfaa
