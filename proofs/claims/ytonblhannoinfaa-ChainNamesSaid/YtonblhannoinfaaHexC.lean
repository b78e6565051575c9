/- Layer 1 (hex): whether a text is so many digits; the bytes of digits: the program's and the document's. -/
import Derived.Test.YtonblhannoinfaaHexB
import Derived.Laws.RangeAny
namespace Go.Proofs.Ytonblhannoinfaa
open Go.RowKit
def isI (s : ByteArray) (n : Int) : Bool := decide ((s.size : Int) = n) && isL (numsOf s)
def isT (s : ByteArray) (n : Int) (k : Nat) : Bool := decide ((s.size : Int) = n) && isL ((numsOf s).take k)
theorem isT_end (s : ByteArray) (n : Int) : isT s n s.size = isI s n := by
  unfold isT isI
  rw [List.take_of_length_le (by rw [numsOf_length]; exact Nat.le_refl _)]
theorem isT_succ (s : ByteArray) (n : Int) (k : Nat) (h : k < s.size) : isT s n (k + 1) = (isT s n k && isHex (s[k]'h).toNat) := by
  unfold isT isL
  rw [List.take_add_one, numsOf_get s k h, List.all_append, ← Bool.and_assoc]
  simp
theorem isI_of_no (s : ByteArray) (n : Int) (k : Nat) (h : isT s n k = false) : isI s n = false := by
  unfold isT at h
  unfold isI
  cases hd : decide ((s.size : Int) = n) with
  | false => rfl
  | true =>
    rw [hd] at h
    simp only [Bool.true_and] at h ⊢
    rw [← List.take_append_drop k (numsOf s)]
    unfold isL at h ⊢
    rw [List.all_append, h]
    rfl
theorem isI_of_high (s : ByteArray) (n : Int) (k : Nat) (h : k < s.size) (hc : isHex (s[k]'h).toNat = false) : isI s n = false :=
  isI_of_no s n (k + 1) (by rw [isT_succ s n k h, hc]; simp)
set_option maxHeartbeats 1000000 in
set_option maxRecDepth 10000 in
theorem is_any (s : ByteArray) (n : Int) (w : World) :
    Calls Try.prog 26 #[.string s, .int .i64 n] w fun e w' => e = .returned (.bool (isI s n)) ∧ Below w.heap.size w w' := by
  have h0 : ((s.size : Int) == n) = isT s n 0 := by unfold isT isL; rw [Bool.eq_iff_iff]; simp
  have H0 := Lib.hid h0
  clear h0
  go_enter Try.func26, Try.ntmps26
  go_wp2
  go_step3
  go_wp2
  go_step3
  go_wp2
  rw [H0.out]
  go_loopw [5] (fun v wr => ∃ pos : Nat, pos ≤ s.size ∧ wr = w.iter s pos ∧ v = .bool (isT s n pos)) (fun _ wr => s.size - wr.iterPos w.heap.size)
  case atStart => exact ⟨0, Nat.zero_le _, rfl, rfl⟩
  case round =>
    obtain ⟨pos, hps, rfl, rfl⟩ := hrel
    by_cases hp : pos < s.size
    · by_cases ha : (s[pos]'hp).toNat < 128
      · have hnx := fun ty => run_next_ascii (P := Try.prog) w s pos ty hp ha
        have HS := Lib.hid (isT_succ s n pos hp)
        have HN := Lib.hid (isI_of_no s n pos)
        have hc0 : ((s[pos]'hp).toNat : Int) ≤ 127 := by omega
        have hc1 : (0 : Int) ≤ ((s[pos]'hp).toNat : Int) := by omega
        generalize (s[pos]'hp).toNat = x at *
        have hd := digit_any (x : Int) (by omega) (by omega) (w.iter s (pos + 1))
        cases hb : isT s n pos with
        | false =>
          have HB := Lib.hid hb
          clear hb hd
          go_wp2
          rw [Exit.noGoto_ret]
          go_ret
          refine ⟨ret_bool (HN.out HB.out).symm, ?_⟩
          exact (Below.refl _ w).alloc (Nat.le_refl _) _
        | true =>
          have HB := Lib.hid hb
          have HD := Lib.hid hd
          clear hb hd
          go_wp2_with fail
          refine HD.out.mono ?_
          rintro e w' ⟨rfl, rfl⟩
          go_wp2
          go_roundw
          case rel => exact ⟨pos + 1, by omega, rfl, by rw [HS.out, HB.out]; rfl⟩
          case measure => rw [World.iterPos_iter, World.iterPos_iter]; omega
      · have hnx := fun ty => run_next_any (P := Try.prog) w s pos ty hp
        have hh := (decode_high s pos hp (by omega)).1
        have hle := decode_le s pos
        have HN := Lib.hid (isI_of_high s n pos hp (by unfold isHex; simp only [decide_eq_false_iff_not]; omega))
        generalize (Utf8.decode s pos).1 = r at *
        generalize (Utf8.decode s pos).2 = d at *
        have hr : (127 : Int) < (r : Int) := by omega
        clear ha
        go_wp2
        rw [Exit.noGoto_ret]
        go_ret
        exact ⟨ret_bool HN.out.symm, (Below.refl _ w).alloc (Nat.le_refl _) _⟩
    · have hnx := fun ty => run_next_end (P := Try.prog) w s pos ty hp
      have HE : Hid (isT s n pos = isI s n) := by rw [show pos = s.size by omega]; exact Lib.hid (isT_end s n)
      go_wp2
      rw [Exit.noGoto_ret]
      go_ret
      exact ⟨ret_bool HE.out, (Below.refl _ w).alloc (Nat.le_refl _) _⟩
theorem isL_take_no (s : ByteArray) (k : Nat) (h : k < s.size) (hc : isHex (s[k]'h).toNat = false) (n : Int) : isI s n = false := isI_of_high s n k h hc
theorem isL_take_succ (s : ByteArray) (k : Nat) (h : k < s.size) (h0 : isL ((numsOf s).take k) = true) (hc : isHex (s[k]'h).toNat = true) : isL ((numsOf s).take (k + 1)) = true := by
  unfold isL at h0 ⊢
  rw [List.take_add_one, numsOf_get s k h, List.all_append, h0]
  simpa using hc
set_option maxHeartbeats 1000000 in
set_option maxRecDepth 10000 in
theorem is2_any (s : ByteArray) (n : Int) (hs : s.size ≤ maxLen) (w : World) :
    Calls Try.prog 30 #[.string s, .int .i64 n] w fun e w' => e = .returned (.bool (isI s n)) ∧ w = w' := by
  unfold maxLen at hs
  have hs' : (s.size : Int) ≤ 9223372036854775807 := by omega
  go_enter Try.func30, Try.ntmps30
  go_wp2
  go_loop [5] (fun i => ∃ k : Nat, k ≤ s.size ∧ i = .int .i64 k ∧ isL ((numsOf s).take k) = true) (fun i => s.size - (intOf i).toNat)
  case atStart => exact ⟨0, Nat.zero_le _, rfl, rfl⟩
  case round =>
    obtain ⟨k, hk, rfl, hl⟩ := hrel
    by_cases hlt : k < s.size
    · have HL := Lib.hid hl
      have HY := Lib.hid (isL_take_succ s k hlt hl)
      have HN := Lib.hid (isI_of_high s n k hlt)
      have hx : (s[k]'hlt).toNat < 256 := (s[k]'hlt).toNat_lt
      have hd := digit2_any ((s[k]'hlt).toNat : Int) (by omega) (by omega) w
      clear hl
      cases hb : isHex (s[k]'hlt).toNat with
      | false =>
        rw [hb] at hd
        have HB := Lib.hid hb
        have HD := Lib.hid hd
        clear hb hd
        go_wp2_with fail
        refine HD.out.mono ?_
        rintro e w' ⟨rfl, rfl⟩
        go_wp2
        go_ret
        exact ⟨ret_bool (HN.out HB.out).symm, rfl⟩
      | true =>
        rw [hb] at hd
        have HB := Lib.hid hb
        have HD := Lib.hid hd
        clear hb hd
        go_wp2_with fail
        refine HD.out.mono ?_
        rintro e w' ⟨rfl, rfl⟩
        go_wp2
        go_round
        case rel => exact ⟨k + 1, by omega, by go_num, HY.out HB.out⟩
        case measure => simp [intOf]; omega
    · have hke : k = s.size := by omega
      subst hke
      rw [List.take_of_length_le (by rw [numsOf_length]; exact Nat.le_refl _)] at hl
      have HL := Lib.hid hl
      clear hl
      go_wp2
      go_ret
      exact ⟨ret_bool (by unfold isI; rw [HL.out, Bool.eq_iff_iff]; simp), rfl⟩
/-! ### Get -/
def getErr (s : ByteArray) : Int := if 16384 < s.size then 4 else if s.size % 2 = 1 ∨ isI s s.size = false then 10 else 0
def getO (s : ByteArray) : List Int := if getErr s = 0 then getL (numsOf s) else []
theorem isI_size (s : ByteArray) : isI s s.size = isL (numsOf s) := by unfold isI; simp
theorem getO_b8 (s : ByteArray) : B8 (getO s) := by
  unfold getO
  split
  · exact getL_b8 _
  · intro x hx; cases hx
theorem get_many (s : ByteArray) (h : 16384 < s.size) : getErr s = 4 ∧ getO s = [] := by
  have : getErr s = 4 := by unfold getErr; rw [if_pos h]
  exact ⟨this, by unfold getO; rw [this]; rfl⟩
theorem get_hex (s : ByteArray) (h : ¬ 16384 < s.size) (h2 : s.size % 2 = 1 ∨ isI s s.size = false) : getErr s = 10 ∧ getO s = [] := by
  have : getErr s = 10 := by unfold getErr; rw [if_neg h, if_pos h2]
  exact ⟨this, by unfold getO; rw [this]; rfl⟩
theorem get_good (s : ByteArray) (h : ¬ 16384 < s.size) (h2 : s.size % 2 = 0) (h3 : isI s s.size = true) : getErr s = 0 ∧ getO s = getL (numsOf s) ∧ (getO s).length = s.size / 2 := by
  have : getErr s = 0 := by unfold getErr; rw [if_neg h, if_neg (by rw [h3]; simp; omega)]
  have e : getO s = getL (numsOf s) := by unfold getO; rw [if_pos this]
  exact ⟨this, e, by rw [e, getL_length, numsOf_length]⟩
def GetPost (s : ByteArray) (w : World) (e : Ending) (w' : World) : Prop :=
  ∃ A c, e = .returned (.tuple #[.slice A (getO s).length c, .int .i64 (getErr s)]) ∧ Rd w' w'.heap.size 1 A (getO s).length (ints .u8 (getO s)) ∧ Below w.heap.size w w'
theorem GetPost.none_ {s : ByteArray} {w w' : World} {k : Int} (h : getErr s = k ∧ getO s = []) (hb : Below w.heap.size w w') : GetPost s w (.returned (.tuple #[.slice none 0 0, .int .i64 k])) w' := by
  obtain ⟨rfl, h2⟩ := h
  exact ⟨none, 0, by rw [h2]; rfl, by rw [h2]; exact Rd.none_, hb⟩
theorem getL_get : ∀ (l : List Int) (k : Nat) (a b : Int), l[2 * k]? = some a → l[2 * k + 1]? = some b → (getL l)[k]? = some (16 * hexN a + hexN b)
  | [], k, a, b, h, _ => by simp at h
  | [x], k, a, b, h, h2 => by
    have : ([x] : List Int)[2 * k + 1]? = none := List.getElem?_eq_none (by simp)
    rw [this] at h2; cases h2
  | x :: y :: t, 0, a, b, h, h2 => by
    simp at h h2
    simp [getL, h, h2]
  | x :: y :: t, k + 1, a, b, h, h2 => by
    rw [show 2 * (k + 1) = 2 * k + 1 + 1 by omega] at h h2
    simp only [List.getElem?_cons_succ] at h h2
    simp only [getL, List.getElem?_cons_succ]
    exact getL_get t k a b h h2
theorem or_digits (a b : Int) (ha : 0 ≤ a ∧ a ≤ 15) (hb : 0 ≤ b ∧ b ≤ 15) : bits .or .i64 (a * 16) b = 16 * a + b := by
  have : ∀ x y : Fin 16, bits .or .i64 ((x.val : Int) * 16) (y.val : Int) = 16 * (x.val : Int) + (y.val : Int) := by decide +kernel
  have h := this ⟨a.toNat, by omega⟩ ⟨b.toNat, by omega⟩
  have e1 : ((a.toNat : Nat) : Int) = a := Int.toNat_of_nonneg ha.1
  have e2 : ((b.toNat : Nat) : Int) = b := Int.toNat_of_nonneg hb.1
  simp only [e1, e2] at h
  exact h
/-- the row while it is filled -/
def outG (l : List Int) (m k : Nat) : List Int := l.take k ++ List.replicate (m - k) 0
theorem outG_zero (l : List Int) (m : Nat) : outG l m 0 = List.replicate m 0 := by simp [outG]
theorem outG_length (l : List Int) (m k : Nat) (h : l.length = m) (hk : k ≤ m) : (outG l m k).length = m := by simp [outG]; omega
theorem outG_set (l : List Int) (m k : Nat) (x : Int) (h : l.length = m) (hk : k < m) (hx : l[k]? = some x) : (outG l m k).set k x = outG l m (k + 1) := by
  unfold outG
  have hl : (l.take k).length = k := by simp; omega
  rw [List.set_append_right _ _ (by omega), hl, Nat.sub_self, show m - k = (m - (k + 1)) + 1 by omega, List.replicate_succ, List.set_cons_zero, List.take_add_one, hx]
  simp
theorem outG_get (l : List Int) (m k : Nat) (h : l.length = m) (hk : k < m) : (outG l m k)[k]? = some 0 := by
  unfold outG
  have hl : (l.take k).length = k := by simp; omega
  rw [List.getElem?_append_right (by omega), hl, Nat.sub_self, List.getElem?_replicate, if_pos (by omega)]
theorem outG_end (l : List Int) (m : Nat) (h : l.length = m) : outG l m m = l := by simp [outG, ← h]
theorem made_u8 (m : Nat) : madeCells #[Value.int .u8 0] m = ⟨ints .u8 (List.replicate m 0)⟩ := by
  apply Array.ext'
  simp [ints, toList_madeCells_one]
set_option maxHeartbeats 1000000 in
set_option maxRecDepth 10000 in
theorem get_any (s : ByteArray) (hs : s.size ≤ maxLen) (w : World) :
    Calls Try.prog 22 #[.string s] w (GetPost s w) := by
  have HMX := Lib.hid hs
  unfold maxLen at hs
  by_cases h1 : 16384 < s.size
  · have hn' : (16384 : Int) < (s.size : Int) := by omega
    go_enter Try.func22, Try.ntmps22
    go_wp2
    go_ret2
    exact GetPost.none_ (get_many s h1) (Below.refl _ _)
  · have hn' : (s.size : Int) ≤ 16384 := by omega
    by_cases h2 : s.size % 2 = 1
    · have h2' : (0 : Int) < (s.size : Int) % 2 := by omega
      go_enter Try.func22, Try.ntmps22
      go_wp2
      go_ret2
      exact GetPost.none_ (get_hex s h1 (.inl h2)) (Below.refl _ _)
    · have h2' : (s.size : Int) % 2 = 0 := by omega
      have HI := Lib.hid (is_any s (s.size : Int))
      cases hb : isI s s.size with
      | false =>
        have HG := Lib.hid (get_hex s h1 (.inr hb))
        have HB := Lib.hid hb
        clear hb
        go_enter Try.func22, Try.ntmps22
        go_wp2_with fail
        refine (HI.out _).mono ?_
        rw [HB.out]
        rintro e w1 ⟨rfl, hb1⟩
        go_wp2
        go_ret2
        exact GetPost.none_ HG.out hb1
      | true =>
        have HG := Lib.hid (get_good s h1 (by omega) hb)
        have HB := Lib.hid hb
        clear hb
        go_enter Try.func22, Try.ntmps22
        go_wp2_with fail
        refine (HI.out _).mono ?_
        rw [HB.out]
        rintro e w1 ⟨rfl, hb1⟩
        obtain ⟨m, hm⟩ : ∃ m : Nat, m = s.size / 2 := ⟨_, rfl⟩
        have h4 : (s.size : Int) / 2 = (m : Int) := by omega
        have h6 : 2 * m ≤ s.size := by omega
        have h5 : m ≤ 8192 := by omega
        have h7 : s.size = 2 * m := by omega
        have H7 := Lib.hid h7
        have HLN : Hid ((getL (numsOf s)).length = m) := by show _ = _; rw [getL_length, numsOf_length, hm]
        obtain ⟨i0, hi, hz0, hz1, hz2⟩ := info_parts info_u8
        have hmk : ∃ w', (Instr.makeSlice 28 (.int .i64 (m : Int)) (.int .i64 (m : Int))).run Try.prog w1 = .ok (.slice (some ⟨w1.heap.size, 0, none⟩) m m) w' ∧
            w'.ownsRow w1.heap.size 5 1 (.slice (some ⟨w1.heap.size, 0, none⟩) m m) m (ints .u8 (List.replicate m 0)) ∧ w1.grownBy w' none := by
          have := run_make_full (P := Try.prog) w1 w1.heap.size 28 5 i0 (.int .u8 0) 1 Try.underlying28 hi hz0 hz1 .i64 .i64 m (by rw [hz2]; omega) (by unfold maxLen; omega) (Nat.le_refl _)
          have e : (madeCells (Value.int .u8 0).cells (m * 1)).toList = ints .u8 (List.replicate m 0) := by
            rw [Nat.mul_one]; exact congrArg Array.toList (made_u8 m)
          rwa [e] at this
        obtain ⟨w2, hrun, hown, hgr⟩ := hmk
        have hb2 : Below w1.heap.size w1 w2 := (Below.refl _ w1).grown hgr (Nat.le_refl _) (by simp)
        have HB2 := Lib.hid hb2
        have HB1 := Lib.hid hb1
        rw [← outG_zero (getL (numsOf s)) m] at hown
        clear hb2 hb1 hgr hm h7
        go_wp2
        generalize hg : w1.heap.size = g at *
        have HGS := Lib.hid hg
        clear hg hrun
        go_loopw [32] (fun i wr => ∃ k : Nat, k ≤ m ∧ i = .int .i64 k ∧ wr.ownsRow g 5 1 (.slice (some ⟨g, 0, none⟩) m m) m (ints .u8 (outG (getL (numsOf s)) m k)) ∧ Below g w1 wr) (fun i _ => m - (intOf i).toNat)
        case atStart => exact ⟨0, by omega, rfl, hown, HB2.out⟩
        case round =>
          obtain ⟨k, hk, rfl, hok, hbk⟩ := hrel
          clear hown
          by_cases hlt : k < m
          · have hi1 : 2 * (k : Int) < (s.size : Int) := by omega
            have hi2 : 2 * (k : Int) + 1 < (s.size : Int) := by omega
            have t1 : (2 * (k : Int)).toNat = 2 * k := by omega
            have t2 : (2 * (k : Int) + 1).toNat = 2 * k + 1 := by omega
            have hgx := getL_get (numsOf s) k _ _ (numsOf_get s (2 * k) (by omega)) (numsOf_get s (2 * k + 1) (by omega))
            have hx1 : (s[2 * k]'(by omega)).toNat < 256 := UInt8.toNat_lt _
            have hx2 : (s[2 * k + 1]'(by omega)).toNat < 256 := UInt8.toNat_lt _
            have hog := outG_set (getL (numsOf s)) m k _ HLN.out hlt hgx
            have hz := outG_get (getL (numsOf s)) m k HLN.out hlt
            have hcell : wr.cell? ⟨g, k, none⟩ = some (.int .u8 0) := by
              rw [hok.cellAt k (by omega)]
              simp [ints, hz]
            have hfr : wr.frozen? ⟨g, k, none⟩ = false := hok.frozenAt _
            have hst := hok.stored k (.int .u8 (16 * hexN ((s[2 * k]'(by omega)).toNat : Int) + hexN ((s[2 * k + 1]'(by omega)).toNat : Int)))
            have hr1 := hexN_rng ((s[2 * k]'(by omega)).toNat : Int)
            have hr2 := hexN_rng ((s[2 * k + 1]'(by omega)).toNat : Int)
            have hv : bits .or .i64 (hexN ((s[2 * k]'(by omega)).toNat : Int) * 16) (hexN ((s[2 * k + 1]'(by omega)).toNat : Int)) % 256 = 16 * hexN ((s[2 * k]'(by omega)).toNat : Int) + hexN ((s[2 * k + 1]'(by omega)).toNat : Int) := by
              rw [or_digits _ _ hr1 hr2]; omega
            have he : (ints .u8 (outG (getL (numsOf s)) m k)).set k (.int .u8 (16 * hexN ((s[2 * k]'(by omega)).toNat : Int) + hexN ((s[2 * k + 1]'(by omega)).toNat : Int))) = ints .u8 (outG (getL (numsOf s)) m (k + 1)) := by
              rw [← hog]; simp [ints, List.map_set]
            rw [he] at hst
            have HV := Lib.hid hv
            have HST := Lib.hid hst
            have HBK := Lib.hid hbk
            clear hst hbk he hog hgx hz hok hv
            go_wp2_with fail
            refine (digit_any _ (by omega) (by omega) _).mono ?_
            rintro e w' ⟨rfl, rfl⟩
            go_wp2_with fail
            refine (digit_any _ (by omega) (by omega) _).mono ?_
            rintro e w' ⟨rfl, rfl⟩
            go_wp2
            rw [HV.out]
            exact ⟨⟨k + 1, by omega, by go_num, HST.out.1, HBK.out.setCell (Nat.le_refl _) _⟩, by simp [intOf]; omega⟩
          · obtain rfl : k = m := by omega
            have HOK := Lib.hid hok
            have HBK := Lib.hid hbk
            clear hok hbk
            go_wp2
            go_ret2
            obtain ⟨e1, e2, e3⟩ := HG.out
            have hfin := HOK.out
            rw [outG_end _ _ HLN.out] at hfin
            have hl : (getO s).length = k := by rw [e2]; exact HLN.out
            refine ⟨_, _, by rw [e1, hl]; rfl, ?_, ?_⟩
            · rw [hl, e2]; exact Rd.of_own hfin
            · exact HB1.out.trans (HBK.out.mono (by rw [← HGS.out]; exact HB1.out.size))
set_option maxHeartbeats 1000000 in
set_option maxRecDepth 10000 in
theorem get2_any (s : ByteArray) (hs : s.size ≤ maxLen) (w : World) :
    Calls Try.prog 28 #[.string s] w (GetPost s w) := by
  have HMX := Lib.hid hs
  unfold maxLen at hs
  by_cases h1 : 16384 < s.size
  · have hn' : (16384 : Int) < (s.size : Int) := by omega
    go_enter Try.func28, Try.ntmps28
    go_wp2
    go_ret2
    exact GetPost.none_ (get_many s h1) (Below.refl _ _)
  · have hn' : (s.size : Int) ≤ 16384 := by omega
    by_cases h2 : s.size % 2 = 1
    · have h2' : (s.size : Int) % 2 = 1 := by omega
      have h2b : ((s.size : Int) % 2 == 1) = true := by rw [h2']; rfl
      clear h2'
      go_enter Try.func28, Try.ntmps28
      go_wp2
      go_ret2
      exact GetPost.none_ (get_hex s h1 (.inl h2)) (Below.refl _ _)
    · have h2' : (s.size : Int) % 2 = 0 := by omega
      have h2b : ((s.size : Int) % 2 == 1) = false := by rw [h2']; rfl
      have HI := Lib.hid (is2_any s (s.size : Int) HMX.out)
      clear h2'
      cases hb : isI s s.size with
      | false =>
        have HG := Lib.hid (get_hex s h1 (.inr hb))
        have HB := Lib.hid hb
        clear hb
        go_enter Try.func28, Try.ntmps28
        go_wp2_with fail
        refine (HI.out _).mono ?_
        rw [HB.out]
        rintro e w1 ⟨rfl, rfl⟩
        go_wp2
        go_ret2
        exact GetPost.none_ HG.out (Below.refl _ _)
      | true =>
        have HG := Lib.hid (get_good s h1 (by omega) hb)
        have HB := Lib.hid hb
        clear hb
        obtain ⟨m, hm⟩ : ∃ m : Nat, m = s.size / 2 := ⟨_, rfl⟩
        have h5 : m ≤ 8192 := by omega
        have h7 : s.size = 2 * m := by omega
        have H7 := Lib.hid h7
        have HLN : Hid ((getL (numsOf s)).length = m) := by show _ = _; rw [getL_length, numsOf_length, hm]
        have hle : 2 * m ≤ s.size := by omega
        have hge : s.size ≤ 2 * m := by omega
        clear hm h7
        generalize hg : w.heap.size = g at *
        have HGS := Lib.hid hg
        have HO0 : Hid (w.ownsRow g 5 1 (.slice none 0 0) 0 (ints .u8 ((getL (numsOf s)).take 0))) := World.ownsRow_nil _ _ _ _
        have HB0 : Hid (Below g w w) := Below.refl _ w
        clear hg
        go_enter Try.func28, Try.ntmps28
        go_wp2_with fail
        refine (HI.out _).mono ?_
        rw [HB.out]
        rintro e w1 ⟨rfl, rfl⟩
        go_wp2
        go_loopw [4, 5] (fun v i wr => ∃ k : Nat, k ≤ m ∧ i = .int .i64 (2 * (k : Int)) ∧ wr.ownsRow g 5 1 v k (ints .u8 ((getL (numsOf s)).take k)) ∧ Below g w wr) (fun _ i _ => s.size - (intOf i).toNat)
        case atStart => exact ⟨0, by omega, rfl, HO0.out, HB0.out⟩
        case round =>
          obtain ⟨k, hk, rfl, hok, hbk⟩ := hrel
          by_cases hlt : k < m
          · have hi0 : (0 : Int) ≤ 2 * (k : Int) := by omega
            have hi1 : 2 * (k : Int) < (s.size : Int) := by omega
            have hi2 : 2 * (k : Int) + 1 < (s.size : Int) := by omega
            have t1 : (2 * (k : Int)).toNat = 2 * k := by omega
            have t2 : (2 * (k : Int) + 1).toNat = 2 * k + 1 := by omega
            have hgx := getL_get (numsOf s) k _ _ (numsOf_get s (2 * k) (by omega)) (numsOf_get s (2 * k + 1) (by omega))
            have hx1 : (s[2 * k]'(by omega)).toNat < 256 := UInt8.toNat_lt _
            have hx2 : (s[2 * k + 1]'(by omega)).toNat < 256 := UInt8.toNat_lt _
            have hr1 := hexN_rng ((s[2 * k]'(by omega)).toNat : Int)
            have hr2 := hexN_rng ((s[2 * k + 1]'(by omega)).toNat : Int)
            have hsz : g ≤ wr.heap.size := by have h1 := hbk.size; have h2 := HGS.out; omega
            have HX := Lib.hid hgx
            have HBK := Lib.hid hbk
            clear hgx hbk
            go_wp2_with fail
            refine (digit2_any _ (by omega) (by omega) _).mono ?_
            rintro e w' ⟨rfl, rfl⟩
            go_wp2_with fail
            refine (digit2_any _ (by omega) (by omega) _).mono ?_
            rintro e w' ⟨rfl, rfl⟩
            generalize hexN ((s[2 * k]'(by omega)).toNat : Int) = a at *
            generalize hexN ((s[2 * k + 1]'(by omega)).toNat : Int) = b at *
            have hrn : Rd (wr.alloc (.cells #[.int .u8 (16 * a + b)] 5)) (wr.heap.size + 1) 1 (some ⟨wr.heap.size, 0, none⟩) 1 (ints .u8 [16 * a + b]) := rd_int1 wr _ _ _
            go_wp2_with (at_builtin; refine app_u8s rfl _ _ rfl g _ k _ rfl (hok.alloc _) _ _ _ _ _ rfl hrn (by omega) (by simp; omega) ?_)
            intro v' w1 hown hgr _
            have HB1 := Lib.hid ((HBK.out.alloc hsz (.cells #[.int .u8 (16 * a + b)] 5)).grown hgr (by simp; omega) (fun q hq => (hok.lt q hq).1))
            have HO := Lib.hid hown
            clear hgr hown hok hrn
            go_wp2
            go_roundw
            case rel =>
              refine ⟨k + 1, by omega, by congr 1, ?_, HB1.out⟩
              rw [List.take_add_one, HX.out]
              exact HO.out
            case measure => simp [intOf]; omega
          · obtain rfl : k = m := by omega
            obtain ⟨A3, c3, rfl⟩ := own_form hok
            have HOK := Lib.hid hok
            have HBK := Lib.hid hbk
            clear hok hbk
            go_wp2
            go_ret2
            obtain ⟨e1, e2, e3⟩ := HG.out
            have hfin := HOK.out
            rw [List.take_of_length_le (by rw [HLN.out]; exact Nat.le_refl _)] at hfin
            have hl : (getO s).length = k := by rw [e2]; exact HLN.out
            refine ⟨_, _, by rw [e1, hl]; rfl, ?_, ?_⟩
            · rw [hl, e2]; exact Rd.of_own hfin
            · rw [HGS.out]; exact HBK.out
end Go.Proofs.Ytonblhannoinfaa
