/- Layer 1 (hex): contracts at known texts; the hex laws' example: it answers true. -/
import Derived.Test.YtonblhannoinfaaHexC
namespace Go.Proofs.Ytonblhannoinfaa
open Go.RowKit
theorem get_lit (s : ByteArray) (l : List Int) (m : Nat) (k : Int) (hs : s.size ≤ maxLen) (hm : l.length = m) (h1 : getErr s = k) (h2 : getO s = l) (w : World) :
    Calls Try.prog 22 #[.string s] w fun e w' => ∃ A c, e = .returned (.tuple #[.slice A m c, .int .i64 k]) ∧ Rd w' w'.heap.size 1 A m (ints .u8 l) ∧ Below w.heap.size w w' := by
  subst h1 h2 hm
  exact get_any s hs w
theorem put_lit (A : Option Addr) (n c B : Nat) (l : List Int) (s : ByteArray) (w : World) (hn : n ≤ 100000000) (hB : B ≤ w.heap.size) (hl : B8 l) (h : Rd w B 1 A n (ints .u8 l)) (hs : strOfNums (putL l) = s) :
    Calls Try.prog 25 #[.slice A n c] w fun e w' => e = .returned (.string s) ∧ Below w.heap.size w w' := by
  subst hs
  exact put_any A n c B l w hn hB hl h
theorem rd_int2 (w : World) (t : TypeId) (k : IntKind) (x y : Int) : Rd (w.alloc (.cells #[.int k x, .int k y] t)) (w.heap.size + 1) 1 (some ⟨w.heap.size, 0, none⟩) 2 (ints k [x, y]) := Rd.new w t #[.int k x, .int k y] rfl
theorem run_index_nums (s : ByteArray) (k : IntKind) (i x : Int) (h0 : 0 ≤ i) (h : (numsOf s)[i.toNat]? = some x) (W : World) : (Instr.index 9 (.string s) (.int k i)).run Try.prog W = .ok (.int .u8 x) W := by
  rw [run_index_string W _ _ k i Try.underlying9]
  have hlt : i.toNat < s.size := by
    rcases Nat.lt_or_ge i.toNat s.size with h' | h'
    · exact h'
    · rw [List.getElem?_eq_none (by rw [numsOf_length]; exact h')] at h
      cases h
  rw [numsOf_get s _ hlt] at h
  rw [dif_pos ⟨h0, by omega⟩]
  injection h with h
  rw [← h]
set_option maxHeartbeats 1000000 in
set_option maxRecDepth 10000 in
theorem hexAlive_any (w : World) : Calls Try.prog 24 #[] w fun e w' => e = .returned (.bool true) ∧ Below w.heap.size w w' := by
  have b8 : B8 [0, 171] := by intro x hx; simp at hx; omega
  have HG := Lib.hid (get_lit ⟨#[48, 48, 97, 98]⟩ [0, 171] 2 0 (by unfold maxLen; decide) rfl (by decide +kernel) (by decide +kernel))
  have HS : Hid (strOfNums (putL [0, 171]) = ⟨#[48, 48, 97, 98]⟩) := by show _ = _; decide +kernel
  have HC : Hid (strOfNums [0, 171] = ⟨#[0, 171]⟩) := by show _ = _; decide +kernel
  go_enter Try.func24, Try.ntmps24
  go_wp2_with fail
  refine (HG.out _).mono ?_
  rintro e w1 ⟨A, c, rfl, hr, hb⟩
  have HB := Lib.hid hb
  have HR := Lib.hid hr
  clear hr hb
  go_wp2_with fail
  refine (put_lit _ 2 2 (w1.heap.size + 1) [0, 171] _ _ (by omega) (by simp) b8 (rd_int2 w1 _ _ _ _) HS.out).mono ?_
  rintro e w2 ⟨rfl, hb2⟩
  have HB2 := Lib.hid (HB.out.trans (((Below.refl _ w1).alloc (Nat.le_refl _) (.cells #[.int .u8 0, .int .u8 171] 5) |>.trans (hb2.mono (by simp))).mono HB.out.size))
  have hr2 := (HR.out.alloc (Nat.le_refl _) (.cells #[.int .u8 0, .int .u8 171] 5)).below hb2 (by simp)
  have hcv := conv_rd (c := c) hr2
  rw [HC.out] at hcv
  clear hb2 hr2
  go_wp2
  go_ret
  exact ⟨rfl, HB2.out⟩
theorem isHex_no {c : Int} (h : isHex c = false) : hexN c = 0 := by
  have : ¬ ((48 ≤ c ∧ c ≤ 57) ∨ (97 ≤ c ∧ c ≤ 102)) := fun k => by rw [isHex_iff.2 k] at h; cases h
  exact (hexN_no (by omega) (by omega)).1
theorem digit_of (n : Int) (h0 : 0 ≤ n) (h1 : n < 16) (w : World) :
    Calls Try.prog 23 #[.int .u8 (ofI n)] w fun e w' => e = .returned (.tuple #[.int .i64 n, .bool true]) ∧ w = w' := by
  obtain ⟨a, b, c, d⟩ := ofI_hex ⟨h0, h1⟩
  have := digit_any (ofI n) (by omega) (by omega) w
  rwa [a, b] at this
theorem digit_at (c n : Int) (b : Bool) (h0 : 0 ≤ c) (h1 : c < 256) (hn : hexN c = n) (hb : isHex c = b) (w : World) :
    Calls Try.prog 23 #[.int .u8 c] w fun e w' => e = .returned (.tuple #[.int .i64 n, .bool b]) ∧ w = w' := by
  subst hn hb
  exact digit_any c h0 h1 w
theorem is_lit (s : ByteArray) (n : Int) (b : Bool) (h : isI s n = b) (w : World) :
    Calls Try.prog 26 #[.string s, .int .i64 n] w fun e w' => e = .returned (.bool b) ∧ Below w.heap.size w w' := by
  subst h
  exact is_any s n w
end Go.Proofs.Ytonblhannoinfaa
