/- The walk of ChainTells. -/
import Derived.Test.YtonblhannoinfaaChainL
namespace Go.Proofs.Ytonblhannoinfaa
open Go.RowKit
set_option linter.unusedSimpArgs false
set_option linter.unusedVariables false
set_option maxHeartbeats 4000000 in
set_option maxRecDepth 10000 in
theorem chainTells_walk (st key fresh : ByteArray) (has : Bool) (n : Int) (w : World) (hs : st.size ≤ maxLen) (hk : key.size ≤ maxLen) (hf : fresh.size ≤ maxLen) (hn : -9223372036854775808 ≤ n ∧ n ≤ 9223372036854775807) :
    Calls Try.prog 14 #[.string st, .string key, .string fresh, .bool has, .int .i64 n] w fun e w' => e = .returned (.bool true) ∧ Below w.heap.size w w' := by
  have hcase : ((300 : Int) < (key.size : Int) ∧ (key.size : Int) ≤ 16384) ∨ ((17000 : Int) < (key.size : Int)) ∨ (((key.size : Int) ≤ 300 ∨ ((16384 : Int) < (key.size : Int) ∧ (key.size : Int) ≤ 17000)) ∧ ((300 : Int) < (st.size : Int) ∨ ((st.size : Int) ≤ 300 ∧ (300 : Int) < (fresh.size : Int)) ∨ ((st.size : Int) ≤ 300 ∧ (fresh.size : Int) ≤ 300 ∧ 8 < n ∧ n ≤ 256) ∨ ((st.size : Int) ≤ 300 ∧ (fresh.size : Int) ≤ 300 ∧ (n ≤ 8 ∨ 256 < n)))) := by omega
  rcases hcase with ⟨h1, h2⟩ | h1 | ⟨h0 | ⟨h0, h00⟩, h1 | ⟨h1, h2⟩ | ⟨h1, h2, h3, h4⟩ | ⟨h1, h2, h3 | h3⟩⟩
  · go_enter Try.func14, Try.ntmps14
    go_wp2
    go_ret
    exact ⟨rfl, Below.refl _ _⟩
  · go_enter Try.func14, Try.ntmps14
    go_wp2
    go_ret
    exact ⟨rfl, Below.refl _ _⟩
  · go_enter Try.func14, Try.ntmps14
    go_wp2
    go_ret
    exact ⟨rfl, Below.refl _ _⟩
  · go_enter Try.func14, Try.ntmps14
    go_wp2
    go_ret
    exact ⟨rfl, Below.refl _ _⟩
  · go_enter Try.func14, Try.ntmps14
    go_wp2
    go_ret
    exact ⟨rfl, Below.refl _ _⟩
  · obtain ⟨L, m, er, hm, hMK, hRM⟩ := make_both key n hk
    have HM1 := Lib.hid hMK
    have HM2 := Lib.hid hRM
    have HN1 := Lib.hid (next_any key hk)
    have HN2 := Lib.hid (refnext_any key hk)
    have HT1 := Lib.hid (take_any st key fresh has)
    have HT2 := Lib.hid (reftake_any st key fresh has hs hk hf)
    have HF1 := Lib.hid (fits_any st key)
    have HF2 := Lib.hid (reffits_any st key hs hk)
    clear hMK hRM
    generalize nextO key = NO at *
    generalize nextErr key = NE at *
    generalize takeO st key fresh has = TO at *
    generalize takeErr st key fresh has = TE at *
    generalize fitsI st key = FI at *
    go_enter Try.func14, Try.ntmps14
    go_wp2_with fail
    refine (HN1.out w).mono ?_
    rintro e w1 ⟨rfl, hb1⟩
    have X1 := Lib.hid hb1
    clear hb1
    go_wp2_with fail
    refine (HN2.out w1).mono ?_
    rintro e w2 ⟨rfl, hb2⟩
    have X2 := Lib.hid (X1.out.trans (hb2.mono X1.out.size))
    clear hb2 X1
    go_wp2_with fail
    refine (HM1.out w2).mono ?_
    rintro e w3 ⟨A3, c3, rfl, hr3, hb3⟩
    have X3 := Lib.hid (X2.out.trans (hb3.mono X2.out.size))
    have R3 := Lib.hid hr3
    clear hb3 X2 hr3
    go_wp2_with fail
    refine (HM2.out w3).mono ?_
    rintro e w4 ⟨A4, c4, rfl, hr4, hb4⟩
    have X4 := Lib.hid (X3.out.trans (hb4.mono X3.out.size))
    have R34 := Lib.hid ((R3.out.below hb4 (Nat.le_refl _)).more hb4.size)
    have R4 := Lib.hid hr4
    clear hb4 X3 hr4 R3
    go_wp2_with fail
    refine (HT1.out w4).mono ?_
    rintro e w5 ⟨rfl, hb5⟩
    have X5 := Lib.hid (X4.out.trans (hb5.mono X4.out.size))
    have R35 := Lib.hid ((R34.out.below hb5 (Nat.le_refl _)).more hb5.size)
    have R45 := Lib.hid ((R4.out.below hb5 (Nat.le_refl _)).more hb5.size)
    clear hb5 X4 R34 R4
    go_wp2_with fail
    refine (HT2.out w5).mono ?_
    rintro e w6 ⟨rfl, hb6⟩
    have X6 := Lib.hid (X5.out.trans (hb6.mono X5.out.size))
    have R36 := Lib.hid ((R35.out.below hb6 (Nat.le_refl _)).more hb6.size)
    have R46 := Lib.hid ((R45.out.below hb6 (Nat.le_refl _)).more hb6.size)
    clear hb6 X5 R35 R45
    go_wp2_with fail
    refine (same_eq A3 A4 m c3 c4 L w6 R36.out R46.out (by omega)).mono ?_
    rintro e w7 ⟨rfl, hb7⟩
    have X7 := Lib.hid (X6.out.trans (hb7.mono X6.out.size))
    clear hb7 X6 R36 R46
    go_wp2_with fail
    refine (HF1.out w7).mono ?_
    rintro e w8 ⟨rfl, hb8⟩
    have X8 := Lib.hid (X7.out.trans (hb8.mono X7.out.size))
    clear hb8 X7
    go_wp2_with fail
    refine (HF2.out w8).mono ?_
    rintro e w9 ⟨rfl, hb9⟩
    have X9 := Lib.hid (X8.out.trans (hb9.mono X8.out.size))
    clear hb9 X8
    go_wp2
    go_ret
    exact ⟨rfl, X9.out⟩
  · obtain ⟨L, m, er, hm, hMK, hRM⟩ := make_both key n hk
    have HM1 := Lib.hid hMK
    have HM2 := Lib.hid hRM
    have HN1 := Lib.hid (next_any key hk)
    have HN2 := Lib.hid (refnext_any key hk)
    have HT1 := Lib.hid (take_any st key fresh has)
    have HT2 := Lib.hid (reftake_any st key fresh has hs hk hf)
    have HF1 := Lib.hid (fits_any st key)
    have HF2 := Lib.hid (reffits_any st key hs hk)
    clear hMK hRM
    generalize nextO key = NO at *
    generalize nextErr key = NE at *
    generalize takeO st key fresh has = TO at *
    generalize takeErr st key fresh has = TE at *
    generalize fitsI st key = FI at *
    go_enter Try.func14, Try.ntmps14
    go_wp2_with fail
    refine (HN1.out w).mono ?_
    rintro e w1 ⟨rfl, hb1⟩
    have X1 := Lib.hid hb1
    clear hb1
    go_wp2_with fail
    refine (HN2.out w1).mono ?_
    rintro e w2 ⟨rfl, hb2⟩
    have X2 := Lib.hid (X1.out.trans (hb2.mono X1.out.size))
    clear hb2 X1
    go_wp2_with fail
    refine (HM1.out w2).mono ?_
    rintro e w3 ⟨A3, c3, rfl, hr3, hb3⟩
    have X3 := Lib.hid (X2.out.trans (hb3.mono X2.out.size))
    have R3 := Lib.hid hr3
    clear hb3 X2 hr3
    go_wp2_with fail
    refine (HM2.out w3).mono ?_
    rintro e w4 ⟨A4, c4, rfl, hr4, hb4⟩
    have X4 := Lib.hid (X3.out.trans (hb4.mono X3.out.size))
    have R34 := Lib.hid ((R3.out.below hb4 (Nat.le_refl _)).more hb4.size)
    have R4 := Lib.hid hr4
    clear hb4 X3 hr4 R3
    go_wp2_with fail
    refine (HT1.out w4).mono ?_
    rintro e w5 ⟨rfl, hb5⟩
    have X5 := Lib.hid (X4.out.trans (hb5.mono X4.out.size))
    have R35 := Lib.hid ((R34.out.below hb5 (Nat.le_refl _)).more hb5.size)
    have R45 := Lib.hid ((R4.out.below hb5 (Nat.le_refl _)).more hb5.size)
    clear hb5 X4 R34 R4
    go_wp2_with fail
    refine (HT2.out w5).mono ?_
    rintro e w6 ⟨rfl, hb6⟩
    have X6 := Lib.hid (X5.out.trans (hb6.mono X5.out.size))
    have R36 := Lib.hid ((R35.out.below hb6 (Nat.le_refl _)).more hb6.size)
    have R46 := Lib.hid ((R45.out.below hb6 (Nat.le_refl _)).more hb6.size)
    clear hb6 X5 R35 R45
    go_wp2_with fail
    refine (same_eq A3 A4 m c3 c4 L w6 R36.out R46.out (by omega)).mono ?_
    rintro e w7 ⟨rfl, hb7⟩
    have X7 := Lib.hid (X6.out.trans (hb7.mono X6.out.size))
    clear hb7 X6 R36 R46
    go_wp2_with fail
    refine (HF1.out w7).mono ?_
    rintro e w8 ⟨rfl, hb8⟩
    have X8 := Lib.hid (X7.out.trans (hb8.mono X7.out.size))
    clear hb8 X7
    go_wp2_with fail
    refine (HF2.out w8).mono ?_
    rintro e w9 ⟨rfl, hb9⟩
    have X9 := Lib.hid (X8.out.trans (hb9.mono X8.out.size))
    clear hb9 X8
    go_wp2
    go_ret
    exact ⟨rfl, X9.out⟩
  · go_enter Try.func14, Try.ntmps14
    go_wp2
    go_ret
    exact ⟨rfl, Below.refl _ _⟩
  · go_enter Try.func14, Try.ntmps14
    go_wp2
    go_ret
    exact ⟨rfl, Below.refl _ _⟩
  · go_enter Try.func14, Try.ntmps14
    go_wp2
    go_ret
    exact ⟨rfl, Below.refl _ _⟩
  · obtain ⟨L, m, er, hm, hMK, hRM⟩ := make_both key n hk
    have HM1 := Lib.hid hMK
    have HM2 := Lib.hid hRM
    have HN1 := Lib.hid (next_any key hk)
    have HN2 := Lib.hid (refnext_any key hk)
    have HT1 := Lib.hid (take_any st key fresh has)
    have HT2 := Lib.hid (reftake_any st key fresh has hs hk hf)
    have HF1 := Lib.hid (fits_any st key)
    have HF2 := Lib.hid (reffits_any st key hs hk)
    clear hMK hRM
    generalize nextO key = NO at *
    generalize nextErr key = NE at *
    generalize takeO st key fresh has = TO at *
    generalize takeErr st key fresh has = TE at *
    generalize fitsI st key = FI at *
    go_enter Try.func14, Try.ntmps14
    go_wp2_with fail
    refine (HN1.out w).mono ?_
    rintro e w1 ⟨rfl, hb1⟩
    have X1 := Lib.hid hb1
    clear hb1
    go_wp2_with fail
    refine (HN2.out w1).mono ?_
    rintro e w2 ⟨rfl, hb2⟩
    have X2 := Lib.hid (X1.out.trans (hb2.mono X1.out.size))
    clear hb2 X1
    go_wp2_with fail
    refine (HM1.out w2).mono ?_
    rintro e w3 ⟨A3, c3, rfl, hr3, hb3⟩
    have X3 := Lib.hid (X2.out.trans (hb3.mono X2.out.size))
    have R3 := Lib.hid hr3
    clear hb3 X2 hr3
    go_wp2_with fail
    refine (HM2.out w3).mono ?_
    rintro e w4 ⟨A4, c4, rfl, hr4, hb4⟩
    have X4 := Lib.hid (X3.out.trans (hb4.mono X3.out.size))
    have R34 := Lib.hid ((R3.out.below hb4 (Nat.le_refl _)).more hb4.size)
    have R4 := Lib.hid hr4
    clear hb4 X3 hr4 R3
    go_wp2_with fail
    refine (HT1.out w4).mono ?_
    rintro e w5 ⟨rfl, hb5⟩
    have X5 := Lib.hid (X4.out.trans (hb5.mono X4.out.size))
    have R35 := Lib.hid ((R34.out.below hb5 (Nat.le_refl _)).more hb5.size)
    have R45 := Lib.hid ((R4.out.below hb5 (Nat.le_refl _)).more hb5.size)
    clear hb5 X4 R34 R4
    go_wp2_with fail
    refine (HT2.out w5).mono ?_
    rintro e w6 ⟨rfl, hb6⟩
    have X6 := Lib.hid (X5.out.trans (hb6.mono X5.out.size))
    have R36 := Lib.hid ((R35.out.below hb6 (Nat.le_refl _)).more hb6.size)
    have R46 := Lib.hid ((R45.out.below hb6 (Nat.le_refl _)).more hb6.size)
    clear hb6 X5 R35 R45
    go_wp2_with fail
    refine (same_eq A3 A4 m c3 c4 L w6 R36.out R46.out (by omega)).mono ?_
    rintro e w7 ⟨rfl, hb7⟩
    have X7 := Lib.hid (X6.out.trans (hb7.mono X6.out.size))
    clear hb7 X6 R36 R46
    go_wp2_with fail
    refine (HF1.out w7).mono ?_
    rintro e w8 ⟨rfl, hb8⟩
    have X8 := Lib.hid (X7.out.trans (hb8.mono X7.out.size))
    clear hb8 X7
    go_wp2_with fail
    refine (HF2.out w8).mono ?_
    rintro e w9 ⟨rfl, hb9⟩
    have X9 := Lib.hid (X8.out.trans (hb9.mono X8.out.size))
    clear hb9 X8
    go_wp2
    go_ret
    exact ⟨rfl, X9.out⟩
  · obtain ⟨L, m, er, hm, hMK, hRM⟩ := make_both key n hk
    have HM1 := Lib.hid hMK
    have HM2 := Lib.hid hRM
    have HN1 := Lib.hid (next_any key hk)
    have HN2 := Lib.hid (refnext_any key hk)
    have HT1 := Lib.hid (take_any st key fresh has)
    have HT2 := Lib.hid (reftake_any st key fresh has hs hk hf)
    have HF1 := Lib.hid (fits_any st key)
    have HF2 := Lib.hid (reffits_any st key hs hk)
    clear hMK hRM
    generalize nextO key = NO at *
    generalize nextErr key = NE at *
    generalize takeO st key fresh has = TO at *
    generalize takeErr st key fresh has = TE at *
    generalize fitsI st key = FI at *
    go_enter Try.func14, Try.ntmps14
    go_wp2_with fail
    refine (HN1.out w).mono ?_
    rintro e w1 ⟨rfl, hb1⟩
    have X1 := Lib.hid hb1
    clear hb1
    go_wp2_with fail
    refine (HN2.out w1).mono ?_
    rintro e w2 ⟨rfl, hb2⟩
    have X2 := Lib.hid (X1.out.trans (hb2.mono X1.out.size))
    clear hb2 X1
    go_wp2_with fail
    refine (HM1.out w2).mono ?_
    rintro e w3 ⟨A3, c3, rfl, hr3, hb3⟩
    have X3 := Lib.hid (X2.out.trans (hb3.mono X2.out.size))
    have R3 := Lib.hid hr3
    clear hb3 X2 hr3
    go_wp2_with fail
    refine (HM2.out w3).mono ?_
    rintro e w4 ⟨A4, c4, rfl, hr4, hb4⟩
    have X4 := Lib.hid (X3.out.trans (hb4.mono X3.out.size))
    have R34 := Lib.hid ((R3.out.below hb4 (Nat.le_refl _)).more hb4.size)
    have R4 := Lib.hid hr4
    clear hb4 X3 hr4 R3
    go_wp2_with fail
    refine (HT1.out w4).mono ?_
    rintro e w5 ⟨rfl, hb5⟩
    have X5 := Lib.hid (X4.out.trans (hb5.mono X4.out.size))
    have R35 := Lib.hid ((R34.out.below hb5 (Nat.le_refl _)).more hb5.size)
    have R45 := Lib.hid ((R4.out.below hb5 (Nat.le_refl _)).more hb5.size)
    clear hb5 X4 R34 R4
    go_wp2_with fail
    refine (HT2.out w5).mono ?_
    rintro e w6 ⟨rfl, hb6⟩
    have X6 := Lib.hid (X5.out.trans (hb6.mono X5.out.size))
    have R36 := Lib.hid ((R35.out.below hb6 (Nat.le_refl _)).more hb6.size)
    have R46 := Lib.hid ((R45.out.below hb6 (Nat.le_refl _)).more hb6.size)
    clear hb6 X5 R35 R45
    go_wp2_with fail
    refine (same_eq A3 A4 m c3 c4 L w6 R36.out R46.out (by omega)).mono ?_
    rintro e w7 ⟨rfl, hb7⟩
    have X7 := Lib.hid (X6.out.trans (hb7.mono X6.out.size))
    clear hb7 X6 R36 R46
    go_wp2_with fail
    refine (HF1.out w7).mono ?_
    rintro e w8 ⟨rfl, hb8⟩
    have X8 := Lib.hid (X7.out.trans (hb8.mono X7.out.size))
    clear hb8 X7
    go_wp2_with fail
    refine (HF2.out w8).mono ?_
    rintro e w9 ⟨rfl, hb9⟩
    have X9 := Lib.hid (X8.out.trans (hb9.mono X8.out.size))
    clear hb9 X8
    go_wp2
    go_ret
    exact ⟨rfl, X9.out⟩
end Go.Proofs.Ytonblhannoinfaa
