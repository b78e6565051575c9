/- The walk of HexBack. -/
import Derived.Test.YtonblhannoinfaaHexAlive
namespace Go.Proofs.Ytonblhannoinfaa
open Go.RowKit
theorem get_of_put {b : List Int} (hb : B8 b) (hn : b.length ≤ 2000) : getErr (strOfNums (putL b)) = 0 ∧ getO (strOfNums (putL b)) = b := by
  have hsz : (strOfNums (putL b)).size = 2 * b.length := by rw [strOfNums_size, putL_length]
  have hi : isI (strOfNums (putL b)) (strOfNums (putL b)).size = true := by rw [isI_size, numsOf_str (putL_b8 hb), isL_put hb]
  obtain ⟨h1, h2, _⟩ := get_good (strOfNums (putL b)) (by omega) (by omega) hi
  exact ⟨h1, by rw [h2, numsOf_str (putL_b8 hb), get_put hb]⟩
set_option maxHeartbeats 2000000 in
set_option maxRecDepth 10000 in
theorem hexBack_walk (A : Option Addr) (n c : Nat) (b : List Int) (s : ByteArray) (w : World) (hr : Rd w w.heap.size 1 A n (ints .u8 b)) (hb : ∀ x ∈ b, 0 ≤ x ∧ x < 256) (hs : s.size ≤ maxLen) :
    Calls Try.prog 6 #[.slice A n c, .string s] w fun e w' => e = .returned (.bool true) ∧ Below w.heap.size w w' := by
  have HMX := Lib.hid hs
  unfold maxLen at hs
  by_cases h1 : 2000 < n
  · go_enter Try.func6, Try.ntmps6
    go_wp2_with fail
    refine (hexAlive_any w).mono ?_
    rintro e w1 ⟨rfl, hb1⟩
    go_wp2
    go_ret
    exact ⟨rfl, hb1⟩
  · by_cases h2 : 2000 < s.size
    · go_enter Try.func6, Try.ntmps6
      go_wp2_with fail
      refine (hexAlive_any w).mono ?_
      rintro e w1 ⟨rfl, hb1⟩
      go_wp2
      go_ret
      exact ⟨rfl, hb1⟩
    · have hlen : b.length = n := by have := hr.1; simpa [ints] using this
      have HGP := Lib.hid (get_of_put (b := b) hb (by omega))
      have HSZ : Hid ((strOfNums (putL b)).size = 2 * n) := by show _ = _; rw [strOfNums_size, putL_length, hlen]
      have HIT : Hid (isI (strOfNums (putL b)) ((2 * n : Nat) : Int) = true) := by show _ = _; rw [← HSZ.out, isI_size, numsOf_str (putL_b8 hb), isL_put hb]
      have HPUT := Lib.hid (fun W B (hB : B ≤ W.heap.size) (h : Rd W B 1 A n (ints .u8 b)) => put_any A n c B b W (by omega) hB hb h)
      have HLEN := Lib.hid hlen
      have HM : Hid ((strOfNums (putL b)).size ≤ maxLen) := by show _ ≤ _; rw [HSZ.out]; unfold maxLen; omega
      generalize strOfNums (putL b) = S at *
      have hGet := fun W => get_lit S b n 0 HM.out HLEN.out HGP.out.1 HGP.out.2 W
      have HGET := Lib.hid hGet
      have hszi : (S.size : Int) = 2 * (n : Int) := by have := HSZ.out; omega
      have hszb : ((S.size : Int) != 2 * (n : Int)) = false := by rw [hszi]; simp
      have HSB := Lib.hid hszb
      clear hGet hb hlen hszi hszb
      have hcase : (getErr s = 0 ∧ isI s s.size = true ∧ s.size % 2 = 0) ∨ (getErr s = 10 ∧ getO s = [] ∧ s.size % 2 = 1) ∨ (getErr s = 10 ∧ getO s = [] ∧ s.size % 2 = 0 ∧ isI s s.size = false) := by
        by_cases ho : s.size % 2 = 1
        · have := get_hex s (by omega) (.inl ho); exact .inr (.inl ⟨this.1, this.2, ho⟩)
        · cases hi : isI s s.size with
          | false => have := get_hex s (by omega) (.inr hi); exact .inr (.inr ⟨this.1, this.2, by omega, rfl⟩)
          | true => exact .inl ⟨(get_good s (by omega) (by omega) hi).1, rfl, by omega⟩
      have HCASE := Lib.hid hcase
      clear hcase
      go_enter Try.func6, Try.ntmps6
      go_wp2_with fail
      refine (hexAlive_any w).mono ?_
      rintro e w1 ⟨rfl, hb1⟩
      have hr1 := hr.below hb1 (Nat.le_refl _)
      have HB1 := Lib.hid hb1
      have hs1 := hb1.size
      clear hr hb1
      go_wp2_with fail
      refine (HPUT.out _ w.heap.size hs1 hr1).mono ?_
      rintro e w2 ⟨rfl, hb2⟩
      have hr2 := hr1.below hb2 hs1
      have HB2 := Lib.hid (HB1.out.trans (hb2.mono hs1))
      have hs2 := HB2.out.size
      clear hr1 hb2
      go_wp2_with fail
      refine (HGET.out _).mono ?_
      rintro e w3 ⟨A3, c3, rfl, hz, hb3⟩
      have hr3 := hr2.below hb3 hs2
      have HB3 := Lib.hid (HB2.out.trans (hb3.mono hs2))
      have hs3 := HB3.out.size
      have e1 := conv_rd (c := c) hr3
      have e2 := conv_rd (c := c3) hz
      generalize strOfNums b = Y at *
      clear hr2 hb3 hz hr3
      have hszb := HSB.out
      go_wp2_with fail
      clear e1 e2 hszb
      have hI := is_any S (S.size : Int) w3
      rw [show isI S (S.size : Int) = true by have := HIT.out; rwa [← HSZ.out] at this] at hI
      refine hI.mono ?_
      clear hI
      rintro e w4 ⟨rfl, hb4⟩
      have HB4 := Lib.hid (HB3.out.trans (hb4.mono hs3))
      have hs4 := HB4.out.size
      clear hb4
      rcases HCASE.out with ⟨g1, g2, g3⟩ | ⟨g1, g2, g3⟩ | ⟨g1, g2, g3, g4⟩
      · have g5 : putL (getO s) = numsOf s := by
          obtain ⟨_, h4, _⟩ := get_good s (by omega) g3 g2
          rw [h4]; exact put_get (by rw [isI_size] at g2; exact g2) (by rw [numsOf_length]; exact g3)
        have hgl : (getO s).length ≤ 2000 := by
          obtain ⟨_, h4, h5⟩ := get_good s (by omega) g3 g2
          omega
        have G5 := Lib.hid g5
        have hGet := get_any s HMX.out w4
        unfold GetPost at hGet
        rw [g1] at hGet
        clear g1 g2 g3 g5
        go_wp2_with fail
        refine hGet.mono ?_
        clear hGet
        rintro e w5 ⟨A5, c5, rfl, hz, hb5⟩
        have HB5 := Lib.hid (HB4.out.trans (hb5.mono hs4))
        have hs5 := HB5.out.size
        clear hb5
        go_wp2_with fail
        refine (put_any A5 _ c5 w5.heap.size (getO s) _ (by omega) (Nat.le_refl _) (getO_b8 s) hz).mono ?_
        rw [G5.out, str_numsOf]
        rintro e w6 ⟨rfl, hb6⟩
        have HB6 := Lib.hid (HB5.out.trans (hb6.mono hs5))
        clear hb6 hz
        go_wp2
        go_ret
        exact ⟨rfl, HB6.out⟩
      · have hGet := get_lit s [] 0 10 HMX.out rfl g1 g2 w4
        have g6 : ((s.size : Int) % 2 == 1) = true := by rw [beq_iff_eq]; omega
        have G6 := Lib.hid g6
        clear g1 g2 g3 g6
        go_wp2_with fail
        refine hGet.mono ?_
        clear hGet
        rintro e w5 ⟨A5, c5, rfl, hz, hb5⟩
        have HB5 := Lib.hid (HB4.out.trans (hb5.mono hs4))
        clear hb5 hz
        have g6 := G6.out
        go_wp2
        go_ret
        exact ⟨rfl, HB5.out⟩
      · have hGet := get_lit s [] 0 10 HMX.out rfl g1 g2 w4
        have g6 : ((s.size : Int) % 2 == 1) = false := by rw [beq_eq_false_iff_ne]; omega
        have G6 := Lib.hid g6
        have G4 := Lib.hid g4
        clear g1 g2 g3 g6 g4
        go_wp2_with fail
        refine hGet.mono ?_
        clear hGet
        rintro e w5 ⟨A5, c5, rfl, hz, hb5⟩
        have HB5 := Lib.hid (HB4.out.trans (hb5.mono hs4))
        have hs5 := HB5.out.size
        clear hb5 hz
        have g6 := G6.out
        go_wp2_with fail
        refine (is_lit s _ false G4.out w5).mono ?_
        rintro e w6 ⟨rfl, hb6⟩
        have HB6 := Lib.hid (HB5.out.trans (hb6.mono hs5))
        clear hb6
        go_wp2
        go_ret
        exact ⟨rfl, HB6.out⟩
end Go.Proofs.Ytonblhannoinfaa
