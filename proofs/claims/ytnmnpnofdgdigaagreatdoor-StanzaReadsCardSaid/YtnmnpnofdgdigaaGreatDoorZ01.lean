import Derived.Test.YtnmnpnofdgdigaaGreatDoorRows
import Derived.JoinedOf
import Derived.Laws.BytesArg
import Derived.Laws.Strings
import Derived.Lib.DecodeN
import Derived.Lib.MapLaws
import Derived.Lib.RuneCountTail
import Derived.Lib.TrimU
set_option linter.all false
section
/- Closed facts on the whole program: its head's text as a list of signs; that it may be entered, and how it was made. -/
namespace Go.Proofs.YtnmnpnofdgdigaaGreatDoor
def initSigns : List Char := List.map Char.ofNat [104, 97, 114, 110, 101, 115, 115, 32, 56, 57, 100, 101, 100, 53, 49, 51, 101, 51, 98, 54, 57, 101, 52, 51, 51, 99, 97, 54, 56, 56, 57, 102, 98, 57, 101, 99, 55, 48, 49, 102, 49, 50, 102, 100, 50, 52, 56, 53, 56, 98, 51, 52, 50, 100, 99, 48, 51, 97, 51, 49, 56, 50, 56, 100, 52, 99, 54, 48, 102, 56, 97, 97, 32, 99, 117, 116, 32, 97, 116, 32, 116, 105, 100, 101, 119, 97, 105, 116, 101, 114, 47, 116, 105, 100, 101, 119, 97, 105, 116, 101, 114, 108, 97, 119, 50, 50, 46, 83, 116, 97, 110, 122, 97, 82, 101, 97, 100, 115, 32, 116, 105, 100, 101, 119, 97, 105, 116, 101, 114, 47, 116, 105, 100, 101, 119, 97, 105, 116, 101, 114, 108, 97, 119, 50, 50, 46, 83, 116, 97, 110, 122, 97, 84, 101, 108, 108, 115, 32, 116, 105, 100, 101, 119, 97, 105, 116, 101, 114, 47, 116, 105, 100, 101, 119, 97, 105, 116, 101, 114, 108, 97, 119, 50, 50, 46, 83, 116, 97, 110, 122, 97, 82, 111, 115, 116, 101, 114, 115]
theorem init_of : Tryz.prog.initOrder = String.ofList initSigns := by kernel_rfl
theorem init_list : Tryz.prog.initOrder.toList = initSigns := by rw [init_of, String.toList_ofList]
def headWords : List (List Char) := [[Char.ofNat 104, Char.ofNat 97, Char.ofNat 114, Char.ofNat 110, Char.ofNat 101, Char.ofNat 115, Char.ofNat 115], [Char.ofNat 56, Char.ofNat 57, Char.ofNat 100, Char.ofNat 101, Char.ofNat 100, Char.ofNat 53, Char.ofNat 49, Char.ofNat 51, Char.ofNat 101, Char.ofNat 51, Char.ofNat 98, Char.ofNat 54, Char.ofNat 57, Char.ofNat 101, Char.ofNat 52, Char.ofNat 51, Char.ofNat 51, Char.ofNat 99, Char.ofNat 97, Char.ofNat 54, Char.ofNat 56, Char.ofNat 56, Char.ofNat 57, Char.ofNat 102, Char.ofNat 98, Char.ofNat 57, Char.ofNat 101, Char.ofNat 99, Char.ofNat 55, Char.ofNat 48, Char.ofNat 49, Char.ofNat 102, Char.ofNat 49, Char.ofNat 50, Char.ofNat 102, Char.ofNat 100, Char.ofNat 50, Char.ofNat 52, Char.ofNat 56, Char.ofNat 53, Char.ofNat 56, Char.ofNat 98, Char.ofNat 51, Char.ofNat 52, Char.ofNat 50, Char.ofNat 100, Char.ofNat 99, Char.ofNat 48, Char.ofNat 51, Char.ofNat 97, Char.ofNat 51, Char.ofNat 49, Char.ofNat 56, Char.ofNat 50, Char.ofNat 56, Char.ofNat 100, Char.ofNat 52, Char.ofNat 99, Char.ofNat 54, Char.ofNat 48, Char.ofNat 102, Char.ofNat 56, Char.ofNat 97, Char.ofNat 97], [Char.ofNat 99, Char.ofNat 117, Char.ofNat 116], [Char.ofNat 97, Char.ofNat 116], [Char.ofNat 116, Char.ofNat 105, Char.ofNat 100, Char.ofNat 101, Char.ofNat 119, Char.ofNat 97, Char.ofNat 105, Char.ofNat 116, Char.ofNat 101, Char.ofNat 114, Char.ofNat 47, Char.ofNat 116, Char.ofNat 105, Char.ofNat 100, Char.ofNat 101, Char.ofNat 119, Char.ofNat 97, Char.ofNat 105, Char.ofNat 116, Char.ofNat 101, Char.ofNat 114, Char.ofNat 108, Char.ofNat 97, Char.ofNat 119, Char.ofNat 50, Char.ofNat 50, Char.ofNat 46, Char.ofNat 83, Char.ofNat 116, Char.ofNat 97, Char.ofNat 110, Char.ofNat 122, Char.ofNat 97, Char.ofNat 82, Char.ofNat 101, Char.ofNat 97, Char.ofNat 100, Char.ofNat 115], [Char.ofNat 116, Char.ofNat 105, Char.ofNat 100, Char.ofNat 101, Char.ofNat 119, Char.ofNat 97, Char.ofNat 105, Char.ofNat 116, Char.ofNat 101, Char.ofNat 114, Char.ofNat 47, Char.ofNat 116, Char.ofNat 105, Char.ofNat 100, Char.ofNat 101, Char.ofNat 119, Char.ofNat 97, Char.ofNat 105, Char.ofNat 116, Char.ofNat 101, Char.ofNat 114, Char.ofNat 108, Char.ofNat 97, Char.ofNat 119, Char.ofNat 50, Char.ofNat 50, Char.ofNat 46, Char.ofNat 83, Char.ofNat 116, Char.ofNat 97, Char.ofNat 110, Char.ofNat 122, Char.ofNat 97, Char.ofNat 84, Char.ofNat 101, Char.ofNat 108, Char.ofNat 108, Char.ofNat 115], [Char.ofNat 116, Char.ofNat 105, Char.ofNat 100, Char.ofNat 101, Char.ofNat 119, Char.ofNat 97, Char.ofNat 105, Char.ofNat 116, Char.ofNat 101, Char.ofNat 114, Char.ofNat 47, Char.ofNat 116, Char.ofNat 105, Char.ofNat 100, Char.ofNat 101, Char.ofNat 119, Char.ofNat 97, Char.ofNat 105, Char.ofNat 116, Char.ofNat 101, Char.ofNat 114, Char.ofNat 108, Char.ofNat 97, Char.ofNat 119, Char.ofNat 50, Char.ofNat 50, Char.ofNat 46, Char.ofNat 83, Char.ofNat 116, Char.ofNat 97, Char.ofNat 110, Char.ofNat 122, Char.ofNat 97, Char.ofNat 82, Char.ofNat 111, Char.ofNat 115, Char.ofNat 116, Char.ofNat 101, Char.ofNat 114, Char.ofNat 115]]
def cutWord : List Char := [Char.ofNat 99, Char.ofNat 117, Char.ofNat 116]
def restWords : List (List Char) := [[Char.ofNat 97, Char.ofNat 116], [Char.ofNat 116, Char.ofNat 105, Char.ofNat 100, Char.ofNat 101, Char.ofNat 119, Char.ofNat 97, Char.ofNat 105, Char.ofNat 116, Char.ofNat 101, Char.ofNat 114, Char.ofNat 47, Char.ofNat 116, Char.ofNat 105, Char.ofNat 100, Char.ofNat 101, Char.ofNat 119, Char.ofNat 97, Char.ofNat 105, Char.ofNat 116, Char.ofNat 101, Char.ofNat 114, Char.ofNat 108, Char.ofNat 97, Char.ofNat 119, Char.ofNat 50, Char.ofNat 50, Char.ofNat 46, Char.ofNat 83, Char.ofNat 116, Char.ofNat 97, Char.ofNat 110, Char.ofNat 122, Char.ofNat 97, Char.ofNat 82, Char.ofNat 101, Char.ofNat 97, Char.ofNat 100, Char.ofNat 115], [Char.ofNat 116, Char.ofNat 105, Char.ofNat 100, Char.ofNat 101, Char.ofNat 119, Char.ofNat 97, Char.ofNat 105, Char.ofNat 116, Char.ofNat 101, Char.ofNat 114, Char.ofNat 47, Char.ofNat 116, Char.ofNat 105, Char.ofNat 100, Char.ofNat 101, Char.ofNat 119, Char.ofNat 97, Char.ofNat 105, Char.ofNat 116, Char.ofNat 101, Char.ofNat 114, Char.ofNat 108, Char.ofNat 97, Char.ofNat 119, Char.ofNat 50, Char.ofNat 50, Char.ofNat 46, Char.ofNat 83, Char.ofNat 116, Char.ofNat 97, Char.ofNat 110, Char.ofNat 122, Char.ofNat 97, Char.ofNat 84, Char.ofNat 101, Char.ofNat 108, Char.ofNat 108, Char.ofNat 115], [Char.ofNat 116, Char.ofNat 105, Char.ofNat 100, Char.ofNat 101, Char.ofNat 119, Char.ofNat 97, Char.ofNat 105, Char.ofNat 116, Char.ofNat 101, Char.ofNat 114, Char.ofNat 47, Char.ofNat 116, Char.ofNat 105, Char.ofNat 100, Char.ofNat 101, Char.ofNat 119, Char.ofNat 97, Char.ofNat 105, Char.ofNat 116, Char.ofNat 101, Char.ofNat 114, Char.ofNat 108, Char.ofNat 97, Char.ofNat 119, Char.ofNat 50, Char.ofNat 50, Char.ofNat 46, Char.ofNat 83, Char.ofNat 116, Char.ofNat 97, Char.ofNat 110, Char.ofNat 122, Char.ofNat 97, Char.ofNat 82, Char.ofNat 111, Char.ofNat 115, Char.ofNat 116, Char.ofNat 101, Char.ofNat 114, Char.ofNat 115]]
theorem words_eq : wordsSigns initSigns = headWords := by kernel_rfl
theorem tail_eq : behindMainWord headWords = (cutWord :: restWords) := by kernel_rfl
theorem tail_of : behindMainWord (wordsSigns Tryz.prog.initOrder.toList) = (cutWord :: restWords) := by rw [init_list, words_eq, tail_eq]
theorem strip_eq : stripLifts liftWords (cutWord :: restWords) = ([], (cutWord :: restWords)) := by kernel_rfl
theorem head_lifts : Tryz.prog.headLifts = [] := by unfold Program.headLifts; rw [tail_of, strip_eq]; kernel_rfl
theorem make_of (P : Program) (c : List Char) (rest : List (List Char)) (h : behindMainWord (wordsSigns P.initOrder.toList) = c :: rest) (h1 : (c == "gc".toList || c == "spec".toList) = false) (h2 : (c == "cut".toList) = true) : P.make = some .cut := by
  delta Program.make
  rewrite [h]
  simp only [h1, h2]
  rfl
theorem enter_of (P : Program) (c : List Char) (rest : List (List Char)) (h : behindMainWord (wordsSigns P.initOrder.toList) = c :: rest) (h1 : stripLifts liftWords (c :: rest) = ([], c :: rest)) (h2 : (c == "cut".toList) = true) (h3 : P.laysLater = false) (h4 : P.bearsReflect = false) (h5 : P.doorFits [] = true) : P.mayEnter = true := by
  delta Program.mayEnter
  rewrite [h]
  dsimp only
  rewrite [h1]
  have e : ((c :: rest).head? == some "cut".toList) = true := by simpa using h2
  simp only [e, h3, h4, h5]
  simp
theorem lifts_of (P : Program) (c : List Char) (rest : List (List Char)) (h : behindMainWord (wordsSigns P.initOrder.toList) = c :: rest) (h1 : (c == "carried".toList) = false) (h2 : P.headLifts = []) : P.liftsFinal = false := by
  delta Program.liftsFinal
  rewrite [h, h2]
  have e : ((c :: rest).head? == some "carried".toList) = false := by simpa using h1
  simp only [e]
  simp
theorem may_enter : Tryz.prog.mayEnter = true := enter_of _ cutWord restWords tail_of strip_eq (by kernel_rfl) (by kernel_rfl) (by kernel_rfl) (by kernel_rfl)
theorem lifts_final : Tryz.prog.liftsFinal = false := lifts_of _ cutWord restWords tail_of (by kernel_rfl) head_lifts
theorem make_cut : Tryz.prog.make = some .cut := make_of _ cutWord restWords tail_of (by kernel_rfl) (by kernel_rfl)
theorem own : ownKnob Tryz.prog.godebug = none := by kernel_rfl
theorem laidOut : laidOutB Tryz.prog = true := by kernel_rfl
theorem maps_rowed : mapsRowed Tryz.prog = true := by kernel_rfl
theorem stops_none : Tryz.prog.stops = [] := by kernel_rfl
theorem stopKnobs_none : Tryz.prog.stopKnobs = [] := by kernel_rfl
theorem stops_heard : Tryz.prog.stopsHeard = true := by kernel_rfl
end Go.Proofs.YtnmnpnofdgdigaaGreatDoor
end
section
/- The plain law of layer 1 (hex): digits of bytes, bytes of digits, as lists of integers; no program in sight. -/
namespace Go.Proofs.YtnmnpnofdgdigaaGreatDoor
def hexN (c : Int) : Int := if 48 ≤ c ∧ c ≤ 57 then c - 48 else if 97 ≤ c ∧ c ≤ 102 then c - 87 else 0
def isHex (c : Int) : Bool := (48 ≤ c ∧ c ≤ 57) ∨ (97 ≤ c ∧ c ≤ 102)
def ofI (n : Int) : Int := if n < 10 then 48 + n else 87 + n
def putL : List Int → List Int
  | [] => []
  | x :: xs => ofI (x / 16) :: ofI (x % 16) :: putL xs
def isL (l : List Int) : Bool := l.all isHex
def getL : List Int → List Int
  | a :: b :: t => (16 * hexN a + hexN b) :: getL t
  | _ => []
/-- a string's bytes as integers -/
def numsOf (s : ByteArray) : List Int := s.data.toList.map fun c => (c.toNat : Int)
def B8 (l : List Int) : Prop := ∀ x ∈ l, 0 ≤ x ∧ x < 256
theorem numsOf_b8 (s : ByteArray) : B8 (numsOf s) := by
  intro x hx
  simp only [numsOf, List.mem_map] at hx
  obtain ⟨c, _, rfl⟩ := hx
  have := c.toNat_lt
  omega
theorem numsOf_length (s : ByteArray) : (numsOf s).length = s.size := by
  unfold numsOf
  rw [List.length_map]
  cases s
  rfl
theorem numsOf_str {l : List Int} (h : B8 l) : numsOf (strOfNums l) = l := by
  unfold numsOf
  rw [strOfNums_data, List.map_map]
  conv => rhs; rw [← List.map_id l]
  apply List.map_congr_left
  intro x hx
  have := h x hx
  have hlt : x.toNat < 256 := by omega
  simp only [Function.comp, id]
  rw [UInt8.toNat_ofNat_of_lt' hlt]
  omega
theorem str_numsOf (s : ByteArray) : strOfNums (numsOf s) = s := by
  apply ByteArray.ext
  apply Array.ext'
  rw [strOfNums_data]
  unfold numsOf
  rw [List.map_map]
  conv => rhs; rw [← List.map_id s.data.toList]
  apply List.map_congr_left
  intro c _
  simp [Function.comp]
theorem numsOf_inj {s t : ByteArray} (h : numsOf s = numsOf t) : s = t := by rw [← str_numsOf s, h, str_numsOf]
theorem numsOf_get (s : ByteArray) (k : Nat) (h : k < s.size) : (numsOf s)[k]? = some ((s[k]'h).toNat : Int) := by
  have : k < s.data.toList.length := by cases s; exact h
  simp only [numsOf, List.getElem?_map, List.getElem?_eq_getElem this]
  rfl
theorem isHex_iff {c : Int} : isHex c = true ↔ (48 ≤ c ∧ c ≤ 57) ∨ (97 ≤ c ∧ c ≤ 102) := by simp [isHex]
theorem hexN_rng (c : Int) : 0 ≤ hexN c ∧ hexN c ≤ 15 := by unfold hexN; split <;> (try split) <;> omega
theorem ofI_hex {n : Int} (h : 0 ≤ n ∧ n < 16) : isHex (ofI n) = true ∧ hexN (ofI n) = n ∧ 48 ≤ ofI n ∧ ofI n < 103 := by
  unfold ofI
  split
  · refine ⟨isHex_iff.2 (by omega), ?_, by omega, by omega⟩
    unfold hexN; rw [if_pos (by omega)]; omega
  · refine ⟨isHex_iff.2 (by omega), ?_, by omega, by omega⟩
    unfold hexN; rw [if_neg (by omega), if_pos (by omega)]; omega
theorem ofI_hexN {c : Int} (h : isHex c = true) : ofI (hexN c) = c := by
  rw [isHex_iff] at h
  unfold ofI hexN
  by_cases h1 : 48 ≤ c ∧ c ≤ 57
  · rw [if_pos h1, if_pos (by omega)]; omega
  · have h2 : 97 ≤ c ∧ c ≤ 102 := by omega
    rw [if_neg h1, if_pos h2, if_neg (by omega)]; omega
theorem ofI_lt {a b : Int} (h : a < b) : ofI a < ofI b := by unfold ofI; split <;> split <;> omega
theorem putL_append (a b : List Int) : putL (a ++ b) = putL a ++ putL b := by
  induction a with
  | nil => rfl
  | cons x xs ih => simp [putL, ih]
theorem putL_length (l : List Int) : (putL l).length = 2 * l.length := by
  induction l with
  | nil => rfl
  | cons x xs ih => simp only [putL, List.length_cons, ih]; omega
theorem putL_b8 {l : List Int} (h : B8 l) : B8 (putL l) := by
  induction l with
  | nil => intro x hx; cases hx
  | cons x xs ih =>
    have h0 := h x (by simp)
    have h1 := (ofI_hex (n := x / 16) (by omega)).2.2
    have h2 := (ofI_hex (n := x % 16) (by omega)).2.2
    intro y hy
    simp only [putL, List.mem_cons] at hy
    rcases hy with rfl | rfl | hy
    · omega
    · omega
    · exact ih (fun z hz => h z (by simp [hz])) y hy
theorem isL_put {l : List Int} (h : B8 l) : isL (putL l) = true := by
  induction l with
  | nil => rfl
  | cons x xs ih =>
    have h0 := h x (by simp)
    have h1 := (ofI_hex (n := x / 16) (by omega)).1
    have h2 := (ofI_hex (n := x % 16) (by omega)).1
    have := ih (fun z hz => h z (by simp [hz]))
    unfold isL at this ⊢
    simp [putL, h1, h2, this]
theorem get_put {l : List Int} (h : B8 l) : getL (putL l) = l := by
  induction l with
  | nil => rfl
  | cons x xs ih =>
    have h0 := h x (by simp)
    have h1 := (ofI_hex (n := x / 16) (by omega)).2.1
    have h2 := (ofI_hex (n := x % 16) (by omega)).2.1
    have := ih (fun z hz => h z (by simp [hz]))
    simp only [putL, getL, h1, h2, this]
    rw [show 16 * (x / 16) + x % 16 = x from by omega]
theorem put_get : ∀ {l : List Int}, isL l = true → l.length % 2 = 0 → putL (getL l) = l
  | [], _, _ => rfl
  | [a], _, h => by simp at h
  | a :: b :: t, h, h2 => by
    have h3 : isHex a = true ∧ isHex b = true ∧ isL t = true := by simpa [isL] using h
    have ha := hexN_rng a
    have hb := hexN_rng b
    have := put_get h3.2.2 (by simp at h2; omega)
    simp only [getL, putL, this]
    rw [show (16 * hexN a + hexN b) / 16 = hexN a from by omega, show (16 * hexN a + hexN b) % 16 = hexN b from by omega, ofI_hexN h3.1, ofI_hexN h3.2.1]
theorem getL_b8 : ∀ l : List Int, B8 (getL l)
  | [] => by intro x hx; cases hx
  | [a] => by intro x hx; cases hx
  | a :: b :: t => by
    have ha := hexN_rng a
    have hb := hexN_rng b
    intro x hx
    simp only [getL, List.mem_cons] at hx
    rcases hx with rfl | hx
    · omega
    · exact getL_b8 t x hx
theorem getL_length : ∀ l : List Int, (getL l).length = l.length / 2
  | [] => rfl
  | [a] => by simp [getL]
  | a :: b :: t => by simp only [getL, List.length_cons, getL_length t]; omega
/-! order -/
theorem u8_lt {x y : Int} (hx : 0 ≤ x ∧ x < 256) (hy : 0 ≤ y ∧ y < 256) : (UInt8.ofNat x.toNat < UInt8.ofNat y.toNat) = (x < y) := by
  rw [UInt8.lt_iff_toNat_lt, UInt8.toNat_ofNat_of_lt' (by show x.toNat < 256; omega), UInt8.toNat_ofNat_of_lt' (by show y.toNat < 256; omega)]
  apply propext; omega
theorem u8_eq {x y : Int} (hx : 0 ≤ x ∧ x < 256) (hy : 0 ≤ y ∧ y < 256) : (UInt8.ofNat x.toNat = UInt8.ofNat y.toNat) = (x = y) := by
  apply propext
  rw [← UInt8.toNat_inj, UInt8.toNat_ofNat_of_lt' (by show x.toNat < 256; omega), UInt8.toNat_ofNat_of_lt' (by show y.toNat < 256; omega)]
  omega
def lessI : List Int → List Int → Bool
  | _, [] => false
  | [], _ :: _ => true
  | a :: x, b :: y => decide (a < b) || (decide (a = b) && lessI x y)
theorem less_str : ∀ {a b : List Int}, B8 a → B8 b → Op.bytesLess (strOfNums a).toList (strOfNums b).toList = lessI a b
  | _, [], _, _ => by simp only [strOfNums]; rw [ByteArray.toList_mk, ByteArray.toList_mk]; simp [Op.bytesLess, lessI]
  | [], b :: y, _, _ => by simp only [strOfNums]; rw [ByteArray.toList_mk, ByteArray.toList_mk]; simp [Op.bytesLess, lessI]
  | a :: x, b :: y, ha, hb => by
    have := less_str (a := x) (b := y) (fun z hz => ha z (by simp [hz])) (fun z hz => hb z (by simp [hz]))
    simp only [strOfNums] at this ⊢
    rw [ByteArray.toList_mk, ByteArray.toList_mk] at this ⊢
    have h1 := u8_lt (ha a (by simp)) (hb b (by simp))
    have h2 := u8_eq (ha a (by simp)) (hb b (by simp))
    simp only [List.map_cons, Op.bytesLess, lessI, this]
    rw [Bool.beq_eq_decide_eq]
    simp only [h1, h2]
theorem lessI_put : ∀ {a b : List Int}, B8 a → B8 b → lessI (putL a) (putL b) = lessI a b
  | [], [], _, _ => rfl
  | _ :: _, [], _, _ => rfl
  | [], _ :: _, _, _ => rfl
  | a :: x, b :: y, ha, hb => by
    have ih := lessI_put (a := x) (b := y) (fun z hz => ha z (by simp [hz])) (fun z hz => hb z (by simp [hz]))
    have a0 := ha a (by simp)
    have b0 := hb b (by simp)
    simp only [putL, lessI, ih]
    rcases Int.lt_trichotomy a b with h | h | h
    · rcases Int.lt_or_eq_of_le (show a / 16 ≤ b / 16 by omega) with h1 | h1
      · have := ofI_lt h1
        simp [h, this]
      · have := ofI_lt (show a % 16 < b % 16 by omega)
        simp [h, h1, this]
    · subst h; simp
    · have hn : ¬ a < b := by omega
      have hne : ¬ a = b := by omega
      rcases Int.lt_or_eq_of_le (show b / 16 ≤ a / 16 by omega) with h1 | h1
      · have := ofI_lt h1
        simp [hn, hne, show ¬ ofI (a / 16) < ofI (b / 16) by omega, show ¬ ofI (a / 16) = ofI (b / 16) by omega]
      · have := ofI_lt (show b % 16 < a % 16 by omega)
        simp [hn, hne, h1, show ¬ ofI (a % 16) < ofI (b % 16) by omega, show ¬ ofI (a % 16) = ofI (b % 16) by omega]
theorem str_append (a b : List Int) : strOfNums (a ++ b) = strOfNums a ++ strOfNums b := by
  unfold strOfNums
  rw [List.map_append]
  apply ByteArray.ext
  simp [ByteArray.data_append]
theorem str_inj {a b : List Int} (ha : B8 a) (hb : B8 b) (h : strOfNums a = strOfNums b) : a = b := by rw [← numsOf_str ha, h, numsOf_str hb]
end Go.Proofs.YtnmnpnofdgdigaaGreatDoor
end
section
/- Plain law of texts (layer 5): which bytes are a text, as the program looks at it (by decoding runes) and as the document does. No program here. -/
namespace Go.Proofs.YtnmnpnofdgdigaaGreatDoor
def mayP (n : Int) : Bool := if n < 32 then decide (n = 9 ∨ n = 10 ∨ n = 13) else decide (n ≤ 1114111 ∧ (n < 55296 ∨ 57343 < n) ∧ n ≠ 65534 ∧ n ≠ 65535)
/-- may the rune that stands at a place be of a text? -/
def okAt (s : ByteArray) (i : Nat) : Bool := mayP ((Utf8.decode s i).1 : Int) && !decide ((Utf8.decode s i).1 = 65533 ∧ (Utf8.decode s i).2 = 1)
def textF (s : ByteArray) : Nat → Nat → Bool
  | 0, i => decide (s.size ≤ i)
  | f + 1, i => if s.size ≤ i then true else okAt s i && textF s f (i + (Utf8.decode s i).2)
def textOK (s : ByteArray) : Bool := textF s s.size 0
theorem dec_pos (s : ByteArray) (i : Nat) : 1 ≤ (Utf8.decode s i).2 := Lib.width_pos s i
theorem textF_more (s : ByteArray) : ∀ (f i : Nat), s.size ≤ i + f → textF s (f + 1) i = textF s f i
  | 0, i, h => by simp [textF]; omega
  | f + 1, i, h => by
    have hd := dec_pos s i
    have e : ∀ g, textF s (g + 1) i = if s.size ≤ i then true else okAt s i && textF s g (i + (Utf8.decode s i).2) := fun _ => rfl
    rw [e (f + 1), e f, textF_more s f (i + (Utf8.decode s i).2) (by omega)]
theorem textF_any (s : ByteArray) (f g i : Nat) (hf : s.size ≤ i + f) (hg : s.size ≤ i + g) : textF s f i = textF s g i := by
  have key : ∀ (d f : Nat), s.size ≤ i + f → textF s (f + d) i = textF s f i := by
    intro d
    induction d with
    | zero => intro f _; rfl
    | succ d ih => intro f h; rw [← Nat.add_assoc, textF_more s (f + d) i (by omega), ih f h]
  rcases Nat.le_total f g with h | h
  · rw [← key (g - f) f hf, show f + (g - f) = g by omega]
  · rw [← key (f - g) g hg, show g + (f - g) = f by omega]
/-- the rest of a text, from a place on -/
def textAt (s : ByteArray) (i : Nat) : Bool := textF s (s.size - i) i
theorem textAt_zero (s : ByteArray) : textAt s 0 = textOK s := rfl
theorem textAt_end (s : ByteArray) (i : Nat) (h : s.size ≤ i) : textAt s i = true := by
  unfold textAt
  rw [show s.size - i = 0 by omega]
  simpa [textF] using h
theorem textAt_step (s : ByteArray) (i : Nat) (h : i < s.size) : textAt s i = (okAt s i && textAt s (i + (Utf8.decode s i).2)) := by
  have hd := dec_pos s i
  unfold textAt
  rw [show s.size - i = (s.size - i - 1) + 1 by omega, textF, if_neg (by omega)]
  rw [textF_any s (s.size - i - 1) (s.size - (i + (Utf8.decode s i).2)) _ (by omega) (by omega)]
theorem textAt_no (s : ByteArray) (i : Nat) (h : i < s.size) (ho : okAt s i = false) : textAt s i = false := by rw [textAt_step s i h, ho]; rfl
theorem textAt_yes (s : ByteArray) (i : Nat) (h : i < s.size) (ho : okAt s i = true) : textAt s i = textAt s (i + (Utf8.decode s i).2) := by rw [textAt_step s i h, ho]; rfl
/-- the program's and the document's error -/
def textErr (s : ByteArray) : Int := if 16384 < s.size then 4 else if textOK s then 0 else 50
/-! ### the document's way -/
/-- the bytes of a code point -/
def bytesU (n : Int) : List Int :=
  if n < 128 then [n]
  else if n < 2048 then [192 + n / 64, 128 + n % 64]
  else if n < 65536 then [224 + n / 4096, 128 + n / 64 % 64, 128 + n % 64]
  else [240 + n / 262144, 128 + n / 4096 % 64, 128 + n / 64 % 64, 128 + n % 64]
def headN (c : Int) : Int := if c < 128 then 1 else if 192 ≤ c ∧ c < 224 then 2 else if 224 ≤ c ∧ c < 240 then 3 else if 240 ≤ c ∧ c < 248 then 4 else 0
def headV (c : Int) : Int := if c < 128 then c else if 192 ≤ c ∧ c < 224 then c - 192 else if 224 ≤ c ∧ c < 240 then c - 224 else if 240 ≤ c ∧ c < 248 then c - 240 else 0
/-- the value behind k more bytes -/
def valU (l : List Int) : Nat → Int
  | 0 => headV (l.getD 0 0)
  | k + 1 => 64 * valU l k + l.getD (k + 1) 0 % 64
def oneOK (l : List Int) : Bool :=
  let z := headN (l.getD 0 0)
  decide (z ≠ 0) && decide (z ≤ l.length) && mayP (valU l (z.toNat - 1)) && decide (bytesU (valU l (z.toNat - 1)) = l.take z.toNat)
end Go.Proofs.YtnmnpnofdgdigaaGreatDoor
end
section
/- Plain law of names (layer 9) and trees (layer 10): which may be, where a node's tree ends. No program here. -/
namespace Go.Proofs.YtnmnpnofdgdigaaGreatDoor
/-! ### names -/
def partB (c : Int) (first : Bool) : Bool := decide ((97 ≤ c ∧ c ≤ 122) ∨ (65 ≤ c ∧ c ≤ 90) ∨ c = 95) || (!first && decide ((48 ≤ c ∧ c ≤ 57) ∨ c = 46 ∨ c = 45))
def nameL (l : List Int) : Bool := match l with
  | [] => false
  | c :: t => partB c true && t.all (partB · false)
/-- the first place of a number -/
def fstL : List Int → Int → Option Nat
  | [], _ => none
  | x :: t, c => if x = c then some 0 else (fstL t c).map (· + 1)
theorem fstL_none : ∀ {l : List Int} {c : Int}, fstL l c = none → ∀ (k : Nat) (x : Int), l[k]? = some x → x ≠ c
  | [], c, _, k, x, hx => by simp at hx
  | y :: t, c, h, k, x, hx => by
    unfold fstL at h
    split at h
    · cases h
    · simp only [Option.map_eq_none_iff] at h
      cases k with
      | zero => simp at hx; subst hx; assumption
      | succ k => exact fstL_none h k x (by simpa using hx)
theorem fstL_some : ∀ {l : List Int} {c : Int} {i : Nat}, fstL l c = some i → l[i]? = some c ∧ ∀ (k : Nat) (x : Int), k < i → l[k]? = some x → x ≠ c
  | [], c, i, h => by cases h
  | y :: t, c, i, h => by
    unfold fstL at h
    split at h
    · rename_i hy
      simp only [Option.some.injEq] at h
      subst h hy
      exact ⟨by simp, fun k x hk => absurd hk (by omega)⟩
    · simp only [Option.map_eq_some_iff] at h
      obtain ⟨j, hj, rfl⟩ := h
      obtain ⟨h1, h2⟩ := fstL_some hj
      refine ⟨by simpa using h1, fun k x hk hx => ?_⟩
      cases k with
      | zero => simp at hx; subst hx; assumption
      | succ k => exact h2 k x (by omega) (by simpa using hx)
theorem fstL_not : ∀ {l : List Int} {c : Int}, (∀ (k : Nat) (x : Int), l[k]? = some x → x ≠ c) → fstL l c = none
  | [], c, _ => rfl
  | y :: t, c, h => by
    unfold fstL
    rw [if_neg (h 0 y (by simp)), fstL_not (fun k x hx => h (k + 1) x (by simpa using hx))]
    rfl
theorem fstL_is : ∀ {l : List Int} {c : Int} {i : Nat}, l[i]? = some c → (∀ (k : Nat) (x : Int), k < i → l[k]? = some x → x ≠ c) → fstL l c = some i
  | [], c, i, h, _ => by simp at h
  | y :: t, c, i, h, h2 => by
    unfold fstL
    cases i with
    | zero =>
      simp only [List.getElem?_cons_zero, Option.some.injEq] at h
      rw [if_pos h]
    | succ i =>
      rw [if_neg (h2 0 y (by omega) (by simp)), fstL_is (by simpa using h) (fun k x hk hx => h2 (k + 1) x (by omega) (by simpa using hx))]
      rfl
def nameI (s : ByteArray) : Bool := nameL (numsOf s)
def fullI (s : ByteArray) : Bool := match fstL (numsOf s) 58 with
  | none => nameI s
  | some i => nameI (s.extract 0 i) && nameI (s.extract (i + 1) s.size)
/-- the first k bytes are a name's -/
def nameT (s : ByteArray) (k : Nat) : Bool := (List.range k).all fun i => partB ((numsOf s).getD i 0) (decide (i = 0))
theorem nameT_succ (s : ByteArray) (k : Nat) : nameT s (k + 1) = (nameT s k && partB ((numsOf s).getD k 0) (decide (k = 0))) := by
  unfold nameT
  rw [List.range_succ, List.all_append]
  simp
theorem nameT_no (s : ByteArray) (k n : Nat) (h : k ≤ n) (h1 : nameT s k = false) : nameT s n = false := by
  unfold nameT at h1 ⊢
  rw [List.all_eq_false] at h1 ⊢
  obtain ⟨x, hx, hy⟩ := h1
  exact ⟨x, List.mem_range.2 (Nat.lt_of_lt_of_le (List.mem_range.1 hx) h), hy⟩
theorem nameL_all : ∀ (l : List Int), nameL l = (decide (0 < l.length) && (List.range l.length).all fun i => partB (l.getD i 0) (decide (i = 0)))
  | [] => rfl
  | c :: t => by
    have e : (List.range (c :: t).length) = 0 :: (List.range t.length).map (· + 1) := by rw [List.length_cons, List.range_succ_eq_map]
    rw [e]
    simp only [nameL, List.all_cons, List.all_map, List.length_cons, Nat.zero_lt_succ, decide_true, Bool.true_and, List.getD_cons_zero]
    congr 1
    rw [Bool.eq_iff_iff, List.all_eq_true, List.all_eq_true]
    constructor
    · intro h i hi
      have hi' := List.mem_range.1 hi
      have := h (t[i]) (List.getElem_mem hi')
      simp only [Function.comp, List.getD_cons_succ, Nat.add_one_ne_zero, decide_false]
      rw [List.getD_eq_getElem?_getD, List.getElem?_eq_getElem hi']
      exact this
    · intro h x hx
      obtain ⟨i, hi, rfl⟩ := List.mem_iff_getElem.1 hx
      have := h i (List.mem_range.2 hi)
      simp only [Function.comp, List.getD_cons_succ, Nat.add_one_ne_zero, decide_false] at this
      rw [List.getD_eq_getElem?_getD, List.getElem?_eq_getElem hi] at this
      exact this
theorem nameI_all (s : ByteArray) : nameI s = (decide (0 < s.size) && nameT s s.size) := by
  unfold nameI nameT
  rw [nameL_all, numsOf_length]
/-! ### nodes -/
structure AttrL where
  space : ByteArray
  name : ByteArray
  value : ByteArray
structure NodeL where
  kind : Int
  space : ByteArray
  name : ByteArray
  attrs : List AttrL
  text : ByteArray
  many : Int
instance : Inhabited NodeL := ⟨⟨0, ⟨#[]⟩, ⟨#[]⟩, [], ⟨#[]⟩, 0⟩⟩
/-- two texts are one: as Go's '==' is spelled -/
def eqS (a b : ByteArray) : Bool := a.toList == b.toList
def dupA (a b : AttrL) : Bool := eqS a.space b.space && eqS a.name b.name
def sndA (a : AttrL) : Bool := fullI a.name && decide (textErr a.value = 0) && decide (textErr a.space = 0)
/-- an attribute may be, behind those ahead of it -/
def goodA (l : List AttrL) (i : Nat) (a : AttrL) : Bool := !(l.take i).any (dupA a) && sndA a
/-- the first k may be -/
def attrsT (l : List AttrL) (k : Nat) : Bool := (List.range k).all fun i => match l[i]? with
  | some a => goodA l i a
  | none => true
def attrsI (l : List AttrL) : Bool := attrsT l l.length && decide (l.length ≤ 16)
theorem attrsT_succ (l : List AttrL) (k : Nat) (a : AttrL) (h : l[k]? = some a) : attrsT l (k + 1) = (attrsT l k && goodA l k a) := by
  unfold attrsT
  rw [List.range_succ, List.all_append]
  simp [h]
theorem attrsT_no (l : List AttrL) : ∀ (k n : Nat), k ≤ n → attrsT l k = false → attrsT l n = false
  | k, n, h, h1 => by
    unfold attrsT at h1 ⊢
    rw [List.all_eq_false] at h1 ⊢
    obtain ⟨x, hx, hy⟩ := h1
    exact ⟨x, List.mem_range.2 (Nat.lt_of_lt_of_le (List.mem_range.1 hx) h), hy⟩
def isEmp (s : ByteArray) : Bool := decide (s.size = 0)
def nodeI (n : NodeL) : Bool :=
  if n.kind = 2 then isEmp n.name && isEmp n.space && decide (n.attrs.length = 0) && decide (n.many = 0) && !isEmp n.text && decide (textErr n.text = 0)
  else decide (n.kind = 1) && isEmp n.text && fullI n.name && decide (textErr n.space = 0) && attrsI n.attrs
/-! ### where a node's tree ends -/
/-- behind so many nodes from a place on, the one ahead of which was a text, or not; f: behind one -/
def endK (f : Nat → Option Nat) (v : List NodeL) : Nat → Nat → Bool → Option Nat
  | 0, next, _ => some next
  | k + 1, next, t => match v[next]? with
    | none => none
    | some n => if (t && decide (n.kind = 2)) = true then none else
      match f next with
      | none => none
      | some e => endK f v k e (decide (n.kind = 2))
/-- the place behind a node, and all within it, with so many levels left -/
def endN (v : List NodeL) : Nat → Nat → Option Nat
  | 0, i => match v[i]? with
    | none => none
    | some n => if nodeI n = true ∧ n.kind = 2 then some (i + 1) else none
  | d + 1, i => match v[i]? with
    | none => none
    | some n => if nodeI n = true ∧ 0 ≤ n.many then endK (endN v d) v n.many.toNat (i + 1) false else none
def treeI (v : List NodeL) : Bool := match v with
  | [] => false
  | n :: _ => decide (v.length ≤ 512) && decide (n.kind = 1) && decide (endN v 12 0 = some v.length)
theorem endK_le {f : Nat → Option Nat} {v : List NodeL} (hf : ∀ i e, f i = some e → i < e ∧ e ≤ v.length) : ∀ (k next : Nat) (t : Bool) (e : Nat), next ≤ v.length → endK f v k next t = some e → next + k ≤ e ∧ e ≤ v.length
  | 0, next, t, e, hn, h => by
    simp only [endK, Option.some.injEq] at h
    omega
  | k + 1, next, t, e, hn, h => by
    rw [endK] at h
    split at h
    · cases h
    · split at h
      · cases h
      · split at h
        · cases h
        · rename_i e1 he1
          have h1 := hf _ _ he1
          have h2 := endK_le hf k e1 _ e h1.2 h
          omega
theorem node_text {n : NodeL} (h : nodeI n = true) (h2 : n.kind = 2) : n.many = 0 := by
  unfold nodeI at h
  rw [if_pos h2] at h
  simp only [Bool.and_eq_true, decide_eq_true_eq] at h
  exact h.1.1.2
theorem node_kind {n : NodeL} (h : nodeI n = true) : n.kind = 1 ∨ n.kind = 2 := by
  unfold nodeI at h
  split at h
  · right; assumption
  · simp only [Bool.and_eq_true, decide_eq_true_eq] at h
    left; exact h.1.1.1.1
theorem endN_le (v : List NodeL) : ∀ (d i e : Nat), endN v d i = some e → i < e ∧ e ≤ v.length
  | 0, i, e, h => by
    rw [endN] at h
    split at h
    · cases h
    · rename_i n hn
      split at h
      · simp only [Option.some.injEq] at h
        have := (List.getElem?_eq_some_iff.1 hn).1
        omega
      · cases h
  | d + 1, i, e, h => by
    rw [endN] at h
    split at h
    · cases h
    · rename_i n hn
      have hi := (List.getElem?_eq_some_iff.1 hn).1
      split at h
      · have := endK_le (endN_le v d) _ _ _ _ (by omega) h
        omega
      · cases h
/-- a level more does not turn it -/
theorem endK_mono {f g : Nat → Option Nat} {v : List NodeL} (hf : ∀ i e, f i = some e → g i = some e) : ∀ (k next : Nat) (t : Bool) (e : Nat), endK f v k next t = some e → endK g v k next t = some e
  | 0, next, t, e, h => by simpa [endK] using h
  | k + 1, next, t, e, h => by
    rw [endK] at h ⊢
    split at h
    · cases h
    · split at h
      · cases h
      · split at h
        · cases h
        · rename_i e1 he1
          rw [if_neg (by assumption), hf _ _ he1]
          exact endK_mono hf k e1 _ e h
theorem endN_mono (v : List NodeL) : ∀ (d i e : Nat), endN v d i = some e → endN v (d + 1) i = some e
  | 0, i, e, h => by
    rw [endN] at h
    rw [endN]
    split at h
    · cases h
    · split at h
      · rename_i n hn hc
        rw [if_pos ⟨hc.1, by rw [node_text hc.1 hc.2]; exact Int.le_refl _⟩, node_text hc.1 hc.2]
        simpa [endK] using h
      · cases h
  | d + 1, i, e, h => by
    rw [endN] at h
    rw [endN]
    split at h
    · cases h
    · split at h
      · rename_i n hn hc
        rw [if_pos hc]
        exact endK_mono (endN_mono v d) _ _ _ _ h
      · cases h
theorem endN_more (v : List NodeL) {d d' i e : Nat} (hd : d ≤ d') (h : endN v d i = some e) : endN v d' i = some e := by
  obtain ⟨k, rfl⟩ := Nat.exists_eq_add_of_le hd
  induction k with
  | zero => exact h
  | succ k ih => exact endN_mono v _ _ _ (ih (by omega))
end Go.Proofs.YtnmnpnofdgdigaaGreatDoor
end
section
/- Plain law of namespaces (layer 11): which trees may be told. No program here. -/
namespace Go.Proofs.YtnmnpnofdgdigaaGreatDoor
def givenB (s : ByteArray) : Bool := (s.toList == [104, 116, 116, 112, 58, 47, 47, 119, 119, 119, 46, 119, 51, 46, 111, 114, 103, 47, 88, 77, 76, 47, 49, 57, 57, 56, 47, 110, 97, 109, 101, 115, 112, 97, 99, 101]) || (s.toList == [104, 116, 116, 112, 58, 47, 47, 119, 119, 119, 46, 119, 51, 46, 111, 114, 103, 47, 50, 48, 48, 48, 47, 120, 109, 108, 110, 115, 47])
def oddA (a : AttrL) : Bool := !nameI a.name || (a.space.toList.isEmpty && (a.name.toList == [120, 109, 108, 110, 115])) || (a.space.toList == [104, 116, 116, 112, 58, 47, 47, 119, 119, 119, 46, 119, 51, 46, 111, 114, 103, 47, 50, 48, 48, 48, 47, 120, 109, 108, 110, 115, 47])
def oddN (n : NodeL) : Bool := (decide (n.kind = 1) && !nameI n.name) || givenB n.space || n.attrs.any oddA
/-- a tree that may be told -/
def spaceI (v : List NodeL) : Bool := !v.any oddN && treeI v
def spaceErr (v : List NodeL) : Int := if spaceI v then 0 else 8
end Go.Proofs.YtnmnpnofdgdigaaGreatDoor
end
section
/- Plain law of trees: the places right within a node, a node's part. No program here. -/
namespace Go.Proofs.YtnmnpnofdgdigaaGreatDoor
/-- the place of a node's j-th one within -/
def kidP (v : List NodeL) : Nat → Nat → Nat
  | 0, a => a
  | j + 1, a => (endN v 12 (kidP v j a)).getD 0
def kidL (v : List NodeL) (m a : Nat) : List Nat := (List.range m).map fun j => kidP v j a
theorem kidL_succ (v : List NodeL) (m a : Nat) : kidL v (m + 1) a = kidL v m a ++ [kidP v m a] := by simp [kidL, List.range_succ]
theorem kidL_len (v : List NodeL) (m a : Nat) : (kidL v m a).length = m := by simp [kidL]
def manyN (v : List NodeL) (i : Nat) : Nat := match v[i]? with
  | some n => n.many.toNat
  | none => 0
def kidsI (v : List NodeL) (i : Nat) : List Nat := kidL v (manyN v i) (i + 1)
/-- a node's part of a tree -/
def partI (v : List NodeL) (i : Nat) : List NodeL := (v.drop i).take ((endN v 12 i).getD 0 - i)
theorem endN_inv {v : List NodeL} {d i e : Nat} (h : endN v (d + 1) i = some e) : ∃ n, v[i]? = some n ∧ nodeI n = true ∧ 0 ≤ n.many ∧ endK (endN v d) v n.many.toNat (i + 1) false = some e := by
  rw [endN] at h
  split at h
  · cases h
  · rename_i n hn
    split at h
    · rename_i h1
      exact ⟨n, hn, h1.1, h1.2, h⟩
    · cases h
theorem endK_inv {f : Nat → Option Nat} {v : List NodeL} {k nx e : Nat} {t : Bool} (h : endK f v (k + 1) nx t = some e) : ∃ m x, v[nx]? = some m ∧ f nx = some x ∧ endK f v k x (decide (m.kind = 2)) = some e := by
  rw [endK] at h
  split at h
  · cases h
  · rename_i m hm
    split at h
    · cases h
    · split at h
      · cases h
      · rename_i x hx
        exact ⟨m, x, hm, hx, h⟩
/-- the chain of a node's places: from a place on, so many left, up to the end -/
def Chain (v : List NodeL) (d left nx e : Nat) : Prop := ∃ t, endK (endN v d) v left nx t = some e
theorem Chain.zero {v : List NodeL} {d nx e : Nat} (h : Chain v d 0 nx e) : nx = e := by
  obtain ⟨t, h⟩ := h
  simpa [endK] using h
theorem Chain.step {v : List NodeL} {d left nx e : Nat} (h : Chain v d (left + 1) nx e) (hd : d ≤ 12) : ∃ x, endN v 12 nx = some x ∧ nx < x ∧ nx < v.length ∧ x ≤ v.length ∧ Chain v d left x e := by
  obtain ⟨t, h⟩ := h
  obtain ⟨m, x, hm, hx, h⟩ := endK_inv h
  have h1 := endN_le v d nx x hx
  exact ⟨x, endN_more v hd hx, h1.1, (List.getElem?_eq_some_iff.1 hm).1, h1.2, _, h⟩
theorem Chain.lt {v : List NodeL} {d left nx e : Nat} (h : Chain v d left nx e) (hn : nx ≤ v.length) : nx + left ≤ e ∧ e ≤ v.length := by
  obtain ⟨t, h⟩ := h
  exact endK_le (endN_le v d) _ _ _ _ hn h
theorem chain_start {v : List NodeL} {i e : Nat} (h : endN v 12 i = some e) : Chain v 11 (manyN v i) (i + 1) e := by
  obtain ⟨n, hn, _, _, h1⟩ := endN_inv h
  unfold manyN
  rw [hn]
  exact ⟨false, h1⟩
/-- all places of a tree have an end -/
def AllEnds (v : List NodeL) : Prop := ∀ k, k < v.length → ∃ x, endN v 12 k = some x
theorem kidP_chain {v : List NodeL} {d m a e : Nat} (hd : d ≤ 12) (ha : a ≤ v.length) (h : Chain v d m a e) : ∀ j, j ≤ m → Chain v d (m - j) (kidP v j a) e ∧ kidP v j a ≤ v.length
  | 0, _ => ⟨h, ha⟩
  | j + 1, hj => by
    obtain ⟨h1, h2⟩ := kidP_chain hd ha h j (by omega)
    rw [show m - j = (m - (j + 1)) + 1 by omega] at h1
    obtain ⟨x, hx, _, _, hx2, hc⟩ := h1.step hd
    rw [kidP, hx]
    exact ⟨hc, hx2⟩
theorem kids_lt {v : List NodeL} {i e : Nat} (h : endN v 12 i = some e) {k : Nat} (hk : k ∈ kidsI v i) : k < v.length ∧ i < k := by
  have hi := (endN_le v 12 i e h)
  have hi2 : i + 1 ≤ v.length := by omega
  unfold kidsI kidL at hk
  rw [List.mem_map] at hk
  obtain ⟨j, hj, rfl⟩ := hk
  rw [List.mem_range] at hj
  have hc := chain_start h
  obtain ⟨h1, _⟩ := kidP_chain (by decide) hi2 hc j (by omega)
  rw [show manyN v i - j = (manyN v i - j - 1) + 1 by omega] at h1
  obtain ⟨x, _, _, hx2, _⟩ := h1.step (by decide)
  refine ⟨hx2, ?_⟩
  have key : ∀ j, j ≤ manyN v i → i + 1 ≤ kidP v j (i + 1) := by
    intro j
    induction j with
    | zero => intro _; exact Nat.le_refl _
    | succ j ih =>
      intro hj
      obtain ⟨h1, _⟩ := kidP_chain (by decide) hi2 hc j (by omega)
      rw [show manyN v i - j = (manyN v i - (j + 1)) + 1 by omega] at h1
      obtain ⟨x, hx, hlt, _⟩ := h1.step (by decide)
      rw [kidP, hx]
      have := ih (by omega)
      simp only [Option.getD_some]
      omega
  exact key j (by omega)
/-! ### every place of a tree has an end -/
theorem ends_in {f : Nat → Option Nat} {v : List NodeL} (hle : ∀ i e, f i = some e → i < e ∧ e ≤ v.length) (hf : ∀ i e, f i = some e → ∀ k, i ≤ k → k < e → ∃ x, endN v 12 k = some x) :
    ∀ (m nx : Nat) (t : Bool) (e : Nat), endK f v m nx t = some e → ∀ k, nx ≤ k → k < e → ∃ x, endN v 12 k = some x
  | 0, nx, t, e, h, k, h1, h2 => by
    simp only [endK, Option.some.injEq] at h
    omega
  | m + 1, nx, t, e, h, k, h1, h2 => by
    obtain ⟨n, x, hn, hx, h3⟩ := endK_inv h
    rcases Nat.lt_or_ge k x with hk | hk
    · exact hf nx x hx k h1 hk
    · exact ends_in hle hf m x _ e h3 k hk h2
theorem ends_all (v : List NodeL) : ∀ (d : Nat), d ≤ 12 → ∀ i e, endN v d i = some e → ∀ k, i ≤ k → k < e → ∃ x, endN v 12 k = some x
  | 0, hd, i, e, h, k, h1, h2 => by
    have h' := endN_more v hd h
    rw [endN] at h
    split at h
    · cases h
    · split at h
      · simp only [Option.some.injEq] at h
        obtain rfl : k = i := by omega
        exact ⟨e, h'⟩
      · cases h
  | d + 1, hd, i, e, h, k, h1, h2 => by
    have h' := endN_more v hd h
    obtain ⟨n, hn, _, _, h3⟩ := endN_inv h
    rcases Nat.eq_or_lt_of_le h1 with rfl | h1
    · exact ⟨e, h'⟩
    · exact ends_in (endN_le v d) (ends_all v d (by omega)) _ _ _ _ h3 k h1 h2
theorem tree_parts {v : List NodeL} (h : treeI v = true) : 0 < v.length ∧ v.length ≤ 512 ∧ (∃ n, v[0]? = some n ∧ n.kind = 1) ∧ endN v 12 0 = some v.length := by
  unfold treeI at h
  cases v with
  | nil => cases h
  | cons n t =>
    simp only [Bool.and_eq_true, decide_eq_true_eq] at h
    exact ⟨by simp, h.1.1, ⟨n, rfl, h.1.2⟩, h.2⟩
theorem tree_ends {v : List NodeL} (h : treeI v = true) {k : Nat} (hk : k < v.length) : ∃ x, endN v 12 k = some x ∧ k < x ∧ x ≤ v.length := by
  obtain ⟨x, hx⟩ := ends_all v 12 (Nat.le_refl _) 0 _ (tree_parts h).2.2.2 k (Nat.zero_le _) hk
  exact ⟨x, hx, endN_le v 12 k x hx⟩
theorem part_len {v : List NodeL} {k e : Nat} (h : endN v 12 k = some e) : (partI v k).length = e - k := by
  have := endN_le v 12 k e h
  unfold partI
  rw [h, List.length_take, List.length_drop, Option.getD_some]
  omega
theorem part_sz {v : List NodeL} {P : NodeL → Prop} {k : Nat} (h : ∀ n ∈ v, P n) : ∀ n ∈ partI v k, P n := fun n hn => h n (List.mem_of_mem_drop (List.mem_of_mem_take hn))
end Go.Proofs.YtnmnpnofdgdigaaGreatDoor
end
section
/- Plain law of lists: the first place of which something holds. No program here. -/
namespace Go.Proofs.YtnmnpnofdgdigaaGreatDoor
def fstP {α : Type} (p : α → Bool) : List α → Option Nat
  | [] => none
  | x :: t => if p x then some 0 else (fstP p t).map (· + 1)
theorem fstP_is {α : Type} {p : α → Bool} : ∀ {l : List α} {i : Nat} {x : α}, l[i]? = some x → p x = true → (∀ (k : Nat) (y : α), k < i → l[k]? = some y → p y = false) → fstP p l = some i
  | [], i, x, h, _, _ => by simp at h
  | y :: t, i, x, h, hp, hn => by
    unfold fstP
    cases i with
    | zero =>
      simp only [List.getElem?_cons_zero, Option.some.injEq] at h
      subst h
      rw [if_pos hp]
    | succ i =>
      rw [if_neg (by simp [hn 0 y (by omega) (by simp)]), fstP_is (l := t) (i := i) (x := x) (by simpa using h) hp (fun k z hk hz => hn (k + 1) z (by omega) (by simpa using hz))]
      rfl
theorem fstP_not {α : Type} {p : α → Bool} : ∀ {l : List α}, (∀ (k : Nat) (y : α), l[k]? = some y → p y = false) → fstP p l = none
  | [], _ => rfl
  | y :: t, hn => by
    unfold fstP
    rw [if_neg (by simp [hn 0 y (by simp)]), fstP_not (l := t) (fun k z hz => hn (k + 1) z (by simpa using hz))]
    rfl
theorem fstP_any {α : Type} (p : α → Bool) : ∀ (l : List α), l.any p = (fstP p l).isSome
  | [] => rfl
  | y :: t => by
    unfold fstP
    rw [List.any_cons, fstP_any p t]
    cases p y <;> simp
theorem fstP_some {α : Type} {p : α → Bool} : ∀ {l : List α} {i : Nat}, fstP p l = some i → ∃ x, l[i]? = some x ∧ p x = true ∧ ∀ (k : Nat) (y : α), k < i → l[k]? = some y → p y = false
  | [], i, h => by cases h
  | y :: t, i, h => by
    unfold fstP at h
    split at h
    · simp only [Option.some.injEq] at h
      subst h
      exact ⟨y, by simp, by assumption, fun k z hk => absurd hk (by omega)⟩
    · rename_i hy
      simp only [Option.map_eq_some_iff] at h
      obtain ⟨j, hj, rfl⟩ := h
      obtain ⟨x, h1, h2, h3⟩ := fstP_some hj
      refine ⟨x, by simpa using h1, h2, fun k z hk hz => ?_⟩
      cases k with
      | zero => simp at hz; subst hz; simpa using hy
      | succ k => exact h3 k z (by omega) (by simpa using hz)
def placeI (o : Option Nat) : Int := match o with
  | some i => i
  | none => -1
end Go.Proofs.YtnmnpnofdgdigaaGreatDoor
end
