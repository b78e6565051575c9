/- The plain law of layer 3 (sha): schedules, rounds, blocks, pads and digests as lists of integers; no program in sight. -/
import Derived.Test.YtonblhannoinfaaPlainA
import Derived.Test.YtonblhannoinfaaPlainB
namespace Go.Proofs.Ytonblhannoinfaa
def at_ (l : List Int) (i : Nat) : Int := l.getD i 0
/-- the next word of a schedule -/
def nextW (l : List Int) : Int :=
  turnI (bits .xor .u32 (oddI (at_ l (l.length - 3)) (at_ l (l.length - 8)) (at_ l (l.length - 14))) (at_ l (l.length - 16))) 1
def sched (l : List Int) : Nat → List Int
  | 0 => l
  | k + 1 => sched l k ++ [nextW (sched l k)]
def putI (t : Nat) (x y z : Int) : Int := if t < 20 then chooseI x y z else if t < 40 then oddI x y z else if t < 60 then mostI x y z else oddI x y z
def conI (t : Nat) : Int := if t < 20 then 1518500249 else if t < 40 then 1859775393 else if t < 60 then 2400959708 else 3395469782
def roundI (t : Nat) (w : Int) : List Int → List Int
  | [a, b, c, d, e] => [sumI [turnI a 5, putI t b c d, e, conI t, w], a, turnI b 30, c, d]
  | _ => []
def roundsI (ws : List Int) (h : List Int) : Nat → List Int
  | 0 => h
  | k + 1 => roundI k (at_ ws k) (roundsI ws h k)
def blockL (h b : List Int) : List Int := List.zipWith addI (roundsI (sched (wordsL b 16) 64) h 80) h
def firstL : List Int := [1732584193, 4023233417, 2562383102, 271733878, 3285377520]
def W5 (h : List Int) : Prop := h.length = 5 ∧ ∀ x ∈ h, 0 ≤ x ∧ x < 4294967296
theorem W5.form {h : List Int} (k : W5 h) : ∃ a b c d e, h = [a, b, c, d, e] ∧ (0 ≤ a ∧ a < 4294967296) ∧ (0 ≤ b ∧ b < 4294967296) ∧ (0 ≤ c ∧ c < 4294967296) ∧ (0 ≤ d ∧ d < 4294967296) ∧ (0 ≤ e ∧ e < 4294967296) := by
  obtain ⟨k1, k2⟩ := k
  match h, k1, k2 with
  | [a, b, c, d, e], _, k2 => exact ⟨a, b, c, d, e, rfl, k2 a (by simp), k2 b (by simp), k2 c (by simp), k2 d (by simp), k2 e (by simp)⟩
theorem sumI_bd (l : List Int) : 0 ≤ sumI l ∧ sumI l < 4294967296 := foldI_addI_bd l
theorem w5_mk {a b c d e : Int} (ha : 0 ≤ a ∧ a < 4294967296) (hb : 0 ≤ b ∧ b < 4294967296) (hc : 0 ≤ c ∧ c < 4294967296) (hd : 0 ≤ d ∧ d < 4294967296) (he : 0 ≤ e ∧ e < 4294967296) : W5 [a, b, c, d, e] := by
  refine ⟨rfl, fun x hx => ?_⟩
  simp at hx
  rcases hx with rfl | rfl | rfl | rfl | rfl <;> assumption
theorem roundI_w5 {h : List Int} (k : W5 h) (t : Nat) (w : Int) : W5 (roundI t w h) := by
  obtain ⟨a, b, c, d, e, rfl, ha, hb, hc, hd, he⟩ := k.form
  exact w5_mk (sumI_bd _) ha (turn_bd _ hb _) hc hd
theorem roundsI_w5 {h : List Int} (k : W5 h) (ws : List Int) (n : Nat) : W5 (roundsI ws h n) := by
  induction n with
  | zero => exact k
  | succ n ih => exact roundI_w5 ih _ _
theorem addI_bd (x y : Int) : 0 ≤ addI x y ∧ addI x y < 4294967296 := by unfold addI; omega
theorem blockL_w5 {h : List Int} (k : W5 h) (b : List Int) : W5 (blockL h b) := by
  obtain ⟨a, b', c, d, e, rfl, _⟩ := k.form
  unfold blockL
  obtain ⟨a2, b2, c2, d2, e2, h2, _⟩ := (roundsI_w5 k (sched (wordsL b 16) 64) 80).form
  rw [h2]
  exact w5_mk (addI_bd _ _) (addI_bd _ _) (addI_bd _ _) (addI_bd _ _) (addI_bd _ _)
theorem first_w5 : W5 firstL := by unfold firstL; exact w5_mk (by omega) (by omega) (by omega) (by omega) (by omega)
theorem sched_length (l : List Int) (k : Nat) : (sched l k).length = l.length + k := by
  induction k with
  | zero => rfl
  | succ k ih => simp [sched, ih]; omega
theorem bits_bd_xor {x y : Int} (hx : 0 ≤ x ∧ x < 4294967296) (hy : 0 ≤ y ∧ y < 4294967296) : 0 ≤ bits .xor .u32 x y ∧ bits .xor .u32 x y < 4294967296 := by
  obtain ⟨X, rfl⟩ := exW x hx.1 hx.2
  obtain ⟨Y, rfl⟩ := exW y hy.1 hy.2
  rw [xor_W]; exact ofW_bd _
theorem odd_bd {x y z : Int} (hx : 0 ≤ x ∧ x < 4294967296) (hy : 0 ≤ y ∧ y < 4294967296) (hz : 0 ≤ z ∧ z < 4294967296) : 0 ≤ oddI x y z ∧ oddI x y z < 4294967296 := by
  obtain ⟨X, rfl⟩ := exW x hx.1 hx.2
  obtain ⟨Y, rfl⟩ := exW y hy.1 hy.2
  obtain ⟨Z, rfl⟩ := exW z hz.1 hz.2
  rw [odd_W]; exact ofW_bd _
theorem odd_xor {x y z : Int} (hx : 0 ≤ x ∧ x < 4294967296) (hy : 0 ≤ y ∧ y < 4294967296) (hz : 0 ≤ z ∧ z < 4294967296) : bits .xor .u32 (bits .xor .u32 x y) z = oddI x y z := by
  obtain ⟨X, rfl⟩ := exW x hx.1 hx.2
  obtain ⟨Y, rfl⟩ := exW y hy.1 hy.2
  obtain ⟨Z, rfl⟩ := exW z hz.1 hz.2
  rw [odd_W, xor_W, xor_W, oddW_eq]
theorem choose_ref {x y z : Int} (hx : 0 ≤ x ∧ x < 4294967296) (hy : 0 ≤ y ∧ y < 4294967296) (hz : 0 ≤ z ∧ z < 4294967296) :
    bits .or .u32 (bits .and .u32 x y) (bits .and .u32 (4294967295 - x) z) = chooseI x y z := by
  obtain ⟨X, rfl⟩ := exW x hx.1 hx.2
  obtain ⟨Y, rfl⟩ := exW y hy.1 hy.2
  obtain ⟨Z, rfl⟩ := exW z hz.1 hz.2
  have hn : 4294967295 - ofW X = ofW (~~~X) := by
    unfold ofW
    rw [BitVec.toNat_not]
    have := X.isLt
    omega
  rw [hn, choose_W, and_W, and_W, or_W]
  congr 1
  unfold chooseW
  ext i hi
  simp
  cases X[i] <;> cases Y[i] <;> cases Z[i] <;> rfl
theorem most_ref {x y z : Int} (hx : 0 ≤ x ∧ x < 4294967296) (hy : 0 ≤ y ∧ y < 4294967296) (hz : 0 ≤ z ∧ z < 4294967296) :
    bits .or .u32 (bits .or .u32 (bits .and .u32 x y) (bits .and .u32 x z)) (bits .and .u32 y z) = mostI x y z := by
  obtain ⟨X, rfl⟩ := exW x hx.1 hx.2
  obtain ⟨Y, rfl⟩ := exW y hy.1 hy.2
  obtain ⟨Z, rfl⟩ := exW z hz.1 hz.2
  rw [most_W, and_W, and_W, and_W, or_W, or_W]
  congr 1
  unfold mostW
  ext i hi
  simp
  cases X[i] <;> cases Y[i] <;> cases Z[i] <;> rfl
theorem turn_bd' {x : Int} (hx : 0 ≤ x ∧ x < 4294967296) (n : Int) : 0 ≤ turnI x n ∧ turnI x n < 4294967296 := turn_bd x hx n
def W32L (l : List Int) : Prop := ∀ x ∈ l, 0 ≤ x ∧ x < 4294967296
theorem at_bd {l : List Int} (h : W32L l) (i : Nat) : 0 ≤ at_ l i ∧ at_ l i < 4294967296 := by
  unfold at_
  rw [List.getD_eq_getElem?_getD]
  cases hx : l[i]? with
  | none => simp
  | some x => exact h x (List.mem_of_getElem? hx)
theorem nextW_bd {l : List Int} (h : W32L l) : 0 ≤ nextW l ∧ nextW l < 4294967296 :=
  turn_bd _ (bits_bd_xor (odd_bd (at_bd h _) (at_bd h _) (at_bd h _)) (at_bd h _)) _
theorem sched_w32 {l : List Int} (h : W32L l) (k : Nat) : W32L (sched l k) := by
  induction k with
  | zero => exact h
  | succ k ih =>
    intro x hx
    simp only [sched, List.mem_append, List.mem_singleton] at hx
    rcases hx with hx | rfl
    · exact ih x hx
    · exact nextW_bd ih
theorem wordsL_w32 {l : List Int} (h : Bytes8 l) (m : Nat) : W32L (wordsL l m) := by
  intro x hx
  simp only [wordsL, List.mem_map] at hx
  obtain ⟨j, _, rfl⟩ := hx
  exact wordAt_bd h j
/-! a block's end: the state added, word by word -/
def mixL (x h : List Int) (i : Nat) : List Int := List.zipWith addI (x.take i) (h.take i) ++ x.drop i
theorem mixL_zero (x h : List Int) : mixL x h 0 = x := by simp [mixL]
theorem mixL_end {x h : List Int} (hx : x.length = 5) (hh : h.length = 5) : mixL x h 5 = List.zipWith addI x h := by
  unfold mixL
  rw [List.take_of_length_le (by omega), List.take_of_length_le (by omega), List.drop_of_length_le (by omega), List.append_nil]
theorem at_get {l : List Int} {i : Nat} (h : i < l.length) : l[i]? = some (at_ l i) := by
  unfold at_
  rw [List.getD_eq_getElem?_getD, List.getElem?_eq_getElem h]; rfl
theorem mixL_get {x h : List Int} (hx : x.length = 5) (hh : h.length = 5) {i : Nat} (hi : i < 5) : (mixL x h i)[i]? = some (at_ x i) := by
  unfold mixL
  have hl : (List.zipWith addI (x.take i) (h.take i)).length = i := by simp; omega
  rw [List.getElem?_append_right (by omega), hl, Nat.sub_self, List.getElem?_drop, Nat.add_zero, at_get (by omega)]
theorem mixL_set {x h : List Int} (hx : x.length = 5) (hh : h.length = 5) {i : Nat} (hi : i < 5) : (mixL x h i).set i (addI (at_ x i) (at_ h i)) = mixL x h (i + 1) := by
  unfold mixL
  have hl : (List.zipWith addI (x.take i) (h.take i)).length = i := by simp; omega
  rw [List.set_append_right _ _ (by omega), hl, Nat.sub_self, List.drop_eq_getElem_cons (by omega), List.set_cons_zero, List.take_add_one, List.take_add_one, at_get (l := x) (by omega), at_get (l := h) (by omega)]
  simp only [Option.toList_some]
  rw [List.zipWith_append (by simp; omega)]
  simp
/-! the schedule while it is made -/
def rowS (l : List Int) (k : Nat) : List Int := sched l (k - 16) ++ List.replicate (64 - (k - 16)) 0
theorem rowS_length {l : List Int} (hl : l.length = 16) {k : Nat} (hk : k ≤ 80) : (rowS l k).length = 80 := by simp [rowS, sched_length, hl]; omega
theorem rowS_low (l : List Int) {k : Nat} (hk : k ≤ 16) : rowS l k = l ++ List.replicate 64 0 := by
  unfold rowS
  rw [show k - 16 = 0 by omega]
  rfl
theorem rowS_get {l : List Int} (hl : l.length = 16) {k j : Nat} (hj : j < 16 + (k - 16)) : (rowS l k)[j]? = some (at_ (sched l (k - 16)) j) := by
  unfold rowS at_
  have : j < (sched l (k - 16)).length := by rw [sched_length, hl]; exact hj
  rw [List.getElem?_append_left this, List.getD_eq_getElem?_getD, List.getElem?_eq_getElem this]
  rfl
theorem rowS_set {l : List Int} (hl : l.length = 16) {k : Nat} (h1 : 16 ≤ k) (h2 : k < 80) : (rowS l k).set k (nextW (sched l (k - 16))) = rowS l (k + 1) := by
  unfold rowS
  have hlen : (sched l (k - 16)).length = k := by rw [sched_length, hl]; omega
  rw [List.set_append_right _ _ (by omega), hlen, Nat.sub_self, show 64 - (k - 16) = (64 - (k + 1 - 16)) + 1 by omega, List.replicate_succ, List.set_cons_zero, show k + 1 - 16 = (k - 16) + 1 by omega, sched]
  simp
theorem rowS_end (l : List Int) : rowS l 80 = sched l 64 := by simp [rowS]
def rowR (l : List Int) (k : Nat) : List Int := if k < 16 then l.take k ++ List.replicate (80 - k) 0 else rowS l k
theorem rowR_zero (l : List Int) : rowR l 0 = List.replicate 80 0 := by simp [rowR]
theorem rowR_high (l : List Int) {k : Nat} (h : 16 ≤ k) : rowR l k = rowS l k := by unfold rowR; rw [if_neg (by omega)]
theorem rowR_length {l : List Int} (hl : l.length = 16) {k : Nat} (hk : k ≤ 80) : (rowR l k).length = 80 := by
  unfold rowR
  split
  · simp; omega
  · exact rowS_length hl hk
theorem rowR_set {l : List Int} (hl : l.length = 16) {k : Nat} (hk : k < 16) (x : Int) (hx : l[k]? = some x) : (rowR l k).set k x = rowR l (k + 1) := by
  have hlen : (l.take k).length = k := by simp; omega
  unfold rowR
  rw [if_pos hk, List.set_append_right _ _ (by omega), hlen, Nat.sub_self, show 80 - k = (80 - (k + 1)) + 1 by omega, List.replicate_succ, List.set_cons_zero]
  split
  · rw [List.take_add_one, hx]; simp
  · rw [rowS_low l (by omega)]
    have : k = 15 := by omega
    subst this
    rw [show l = l.take 15 ++ [x] by
      conv => lhs; rw [← List.take_of_length_le (show l.length ≤ 15 + 1 by omega), List.take_add_one, hx]
      rfl]
    have h15 : (l.take 15).length = 15 := by simp; omega
    simp [h15]
/-! pads and digests -/
def padL (n : Nat) : List Int := 128 :: (List.replicate ((119 - n % 64) % 64) 0 ++ bytesL [0, 8 * (n : Int)])
theorem padL_length (n : Nat) : (padL n).length = 9 + (119 - n % 64) % 64 := by simp [padL, bytesL_length]; omega
theorem padL_b8 (n : Nat) : Bytes8 (padL n) := by
  intro x hx
  simp only [padL, List.mem_cons, List.mem_append, List.mem_replicate] at hx
  rcases hx with rfl | ⟨_, rfl⟩ | hx
  · omega
  · omega
  · exact bytesL_bd _ x hx
def runF (f : List Int → List Int → List Int) (h : List Int) (l : List Int) : Nat → List Int
  | 0 => h
  | k + 1 => runF f (f h (l.take 64)) (l.drop 64) k
section
variable {f : List Int → List Int → List Int}
theorem runF_snoc : ∀ (k : Nat) (h l : List Int), runF f h l (k + 1) = f (runF f h l k) ((l.drop (64 * k)).take 64)
  | 0, h, l => by simp [runF]
  | k + 1, h, l => by
    rw [runF, runF_snoc k, runF, List.drop_drop, show 64 + 64 * k = 64 * (k + 1) by omega]
theorem runF_add : ∀ (j k : Nat) (h l : List Int), runF f h l (j + k) = runF f (runF f h l j) (l.drop (64 * j)) k
  | 0, k, h, l => by simp [runF]
  | j + 1, k, h, l => by
    rw [show j + 1 + k = (j + k) + 1 by omega, runF, runF_add j k, runF, List.drop_drop, show 64 + 64 * j = 64 * (j + 1) by omega]
theorem runF_take : ∀ (k : Nat) (h l : List Int), runF f h (l.take (64 * k)) k = runF f h l k
  | 0, _, _ => rfl
  | k + 1, h, l => by
    rw [runF, runF, List.take_take, Nat.min_eq_left (by omega), List.drop_take, show 64 * (k + 1) - 64 = 64 * k by omega, runF_take k]
theorem runF_w5 (hf : ∀ h b, W5 h → W5 (f h b)) : ∀ (k : Nat) (h l : List Int), W5 h → W5 (runF f h l k)
  | 0, _, _, w => w
  | k + 1, _, _, w => runF_w5 hf k _ _ (hf _ _ w)
end
def runL (h l : List Int) (k : Nat) : List Int := runF blockL h l k
theorem runL_w5 (k : Nat) (h l : List Int) (w : W5 h) : W5 (runL h l k) := runF_w5 (fun _ _ w => blockL_w5 w _) k h l w
def allL (b : List Int) : List Int := b ++ padL b.length
theorem allL_length (b : List Int) : (allL b).length % 64 = 0 := by
  simp only [allL, List.length_append, padL_length]; omega
def digestL (b : List Int) : List Int := bytesL (runL firstL (allL b) ((allL b).length / 64))
theorem digestL_length (b : List Int) : (digestL b).length = 20 := by
  unfold digestL
  rw [bytesL_length, (runL_w5 _ _ _ first_w5).1]
theorem digestL_b8 (b : List Int) : Bytes8 (digestL b) := bytesL_bd _
theorem digest_abc : digestL [97, 98, 99] = [169, 153, 62, 54, 71, 6, 129, 106, 186, 62, 37, 113, 120, 80, 194, 108, 156, 208, 216, 157] := by decide +kernel
end Go.Proofs.Ytonblhannoinfaa
