/- The walk of ChainTakes. -/
import Derived.Test.YtonblhannoinfaaChainF
namespace Go.Proofs.Ytonblhannoinfaa
open Go.RowKit
set_option linter.unusedSimpArgs false
set_option linter.unusedVariables false
theorem takeI_eq (st key fresh : ByteArray) (has : Bool) : takeI st key fresh has = (fitsI st key && (!has || isI fresh 40)) := by
  unfold takeI nowI
  cases has with
  | true => simp
  | false =>
    have : fitsI st key = true → isI key 40 = true := fun h => by unfold fitsI at h; simp at h; exact h.2.1
    cases h : fitsI st key with
    | false => rfl
    | true => simp [this h]
set_option maxHeartbeats 4000000 in
set_option maxRecDepth 10000 in
theorem chainTakes_walk (st key fresh : ByteArray) (has : Bool) (w : World) (hs : st.size ≤ maxLen) (hk : key.size ≤ maxLen) (hf : fresh.size ≤ maxLen) :
    Calls Try.prog 16 #[.string st, .string key, .string fresh, .bool has] w fun e w' => e = .returned (.bool true) ∧ Below w.heap.size w w' := by
  have hcase : (300 : Int) < (st.size : Int) ∨ (¬ (300 : Int) < (st.size : Int) ∧ (300 : Int) < (key.size : Int)) ∨ (¬ (300 : Int) < (st.size : Int) ∧ ¬ (300 : Int) < (key.size : Int) ∧ (300 : Int) < (fresh.size : Int)) ∨ (¬ (300 : Int) < (st.size : Int) ∧ ¬ (300 : Int) < (key.size : Int) ∧ ¬ (300 : Int) < (fresh.size : Int)) := by omega
  rcases hcase with h1 | ⟨h1, h2⟩ | ⟨h1, h2, h3⟩ | ⟨h1, h2, h3⟩
  · go_enter Try.func16, Try.ntmps16
    go_wp2_with fail
    refine (chainAlive_any w).mono ?_
    rintro e w1 ⟨rfl, hb1⟩
    go_wp2
    go_ret
    exact ⟨rfl, hb1⟩
  · go_enter Try.func16, Try.ntmps16
    go_wp2_with fail
    refine (chainAlive_any w).mono ?_
    rintro e w1 ⟨rfl, hb1⟩
    go_wp2
    go_ret
    exact ⟨rfl, hb1⟩
  · go_enter Try.func16, Try.ntmps16
    go_wp2_with fail
    refine (chainAlive_any w).mono ?_
    rintro e w1 ⟨rfl, hb1⟩
    go_wp2
    go_ret
    exact ⟨rfl, hb1⟩
  · have hT := fun W => take_any st key fresh has W
    have hO : takeO st key fresh has = if (fitsI st key && (!has || isI fresh 40)) then nowI key fresh has else ⟨#[]⟩ := by unfold takeO; rw [takeI_eq]
    have hE : takeErr st key fresh has = if (fitsI st key && (!has || isI fresh 40)) then 0 else 40 := by unfold takeErr; rw [takeI_eq]
    rw [hO, hE] at hT
    have HFT := Lib.hid (fits_any st key)
    have H1 := Lib.hid (is_any st 40)
    have H2 := Lib.hid (is_any key 40)
    have H4 := Lib.hid (is_any fresh 40)
    have hbs := fun W => bytes_of key hk W
    have hsh : shaErr (numsOf key).length = 0 ∧ shaO (numsOf key) = digestL (numsOf key) := by rw [numsOf_length]; exact ⟨by unfold shaErr; rw [if_neg (by omega)], by unfold shaO; rw [numsOf_length, if_neg (by omega)]⟩
    have HSH := Lib.hid hsh
    have HBS := Lib.hid hbs
    have HT := Lib.hid hT
    have HSL := Lib.hid (digestL_length (numsOf key))
    have HD8 := Lib.hid (digestL_b8 (numsOf key))
    have hOF := fun (A : Option Addr) (c B : Nat) (W : World) (hB : B ≤ W.heap.size) (hr : Rd W B 1 A key.size (ints .u8 (numsOf key))) (hc : key.size ≤ c) => of_all_sha A key.size c B (numsOf key) W hB hr (numsOf_b8 key) hc (by omega)
    have HOF := Lib.hid hOF
    have hF : fitsI st key = (isI st 40 && (isI key 40 && ((nextS key).toList == st.toList))) := rfl
    have HS : Box (strOfNums (putL (digestL (numsOf key))) = nextS key) := Box.mk rfl
    rw [hF] at HFT HT
    clear hT hO hE hbs hsh hOF hF
    generalize digestL (numsOf key) = D at *
    generalize nextS key = S at *
    obtain ⟨b3, hb3⟩ : ∃ b3, (S.toList == st.toList) = b3 := ⟨_, rfl⟩
    rw [hb3] at HFT HT
    generalize isI st 40 = b1 at *
    generalize isI key 40 = b2 at *
    generalize isI fresh 40 = b4 at *
    have HB3 := Lib.hid hb3
    have hcase2 : b1 = false ∨ (b1 = true ∧ b2 = false) ∨ (b1 = true ∧ b2 = true ∧ b3 = false) ∨ (b1 = true ∧ b2 = true ∧ b3 = true ∧ has = false) ∨ (b1 = true ∧ b2 = true ∧ b3 = true ∧ has = true ∧ b4 = false) ∨ (b1 = true ∧ b2 = true ∧ b3 = true ∧ has = true ∧ b4 = true) := by
      cases b1 <;> cases b2 <;> cases b3 <;> cases has <;> cases b4 <;> simp
    rcases hcase2 with rfl | ⟨rfl, rfl⟩ | ⟨rfl, rfl, rfl⟩ | ⟨rfl, rfl, rfl, rfl⟩ | ⟨rfl, rfl, rfl, rfl, rfl⟩ | ⟨rfl, rfl, rfl, rfl, rfl⟩
    · simp only [nowI, Bool.false_and, Bool.true_and, Bool.and_false, Bool.and_true, Bool.not_false, Bool.not_true, Bool.true_or, Bool.false_or, Bool.or_true, Bool.or_false, if_true, if_false, Bool.false_eq_true] at HT HFT
      go_enter Try.func16, Try.ntmps16
      go_wp2_with fail
      refine (chainAlive_any w).mono ?_
      rintro e w1 ⟨rfl, hb1⟩
      have X1 := Lib.hid hb1
      clear hb1
      go_wp2_with fail
      refine (HT.out w1).mono ?_
      rintro e w2 ⟨rfl, hb2⟩
      have X2 := Lib.hid (X1.out.trans (hb2.mono X1.out.size))
      obtain ⟨c3, w3, hc3, hrun, hr3, hbx3⟩ := HBS.out w2
      have X3 := Lib.hid (X2.out.trans (hbx3.mono X2.out.size))
      have R3 := Lib.hid hr3
      have C3 := Lib.hid hc3
      clear hb2 hr3 hbx3 X1 hc3
      go_wp2_with fail
      refine (HOF.out _ _ w3.heap.size w3 (Nat.le_refl _) R3.out C3.out).mono ?_
      rintro e w4 ⟨rfl, hb4⟩
      rw [HSH.out.1, HSH.out.2]
      have X4 := Lib.hid (X3.out.trans (hb4.mono X3.out.size))
      have hs4 := X4.out.size
      clear hb4 hrun X2 X3 R3 C3
      go_upto_region 6 with (refine wpList_store_row rfl 43 (.tmp 12) (.tmp 46) rfl w4.heap.size (ints .u8 D).toArray rfl rfl _ _ (heap_alloc_new w4 _) (size20 HSL.out) (old20 HSL.out) (ints_all_one _ _) ?_)
      rw [zero20]
      obtain ⟨h12, hx5⟩ := new20 w4 D
      generalize (w4.alloc (.cells (ints .u8 (List.replicate 20 0)).toArray 43)).setRow w4.heap.size (ints .u8 D).toArray = w5 at *
      obtain ⟨g, hg⟩ : ∃ g, g = w4.heap.size := ⟨_, rfl⟩
      rw [← hg] at h12
      rw [← hg]
      have H12 := Lib.hid h12
      have X5 := Lib.hid (X4.out.trans (hx5.mono hs4))
      clear h12 hx5 hg X4
      go_wp2_with fail
      refine (H1.out w5).mono ?_
      rintro e w6 ⟨rfl, hb6⟩
      have X6 := Lib.hid (X5.out.trans (hb6.mono X5.out.size))
      have G6 := Lib.hid (H12.out.ext hb6)
      clear hb6 X5 H12
      go_wp2_with fail
      refine (HFT.out w6).mono ?_
      rintro e w7 ⟨rfl, hb7⟩
      have X7 := Lib.hid (X6.out.trans (hb7.mono X6.out.size))
      clear hb7 X6
      go_wp2
      go_ret
      exact ⟨rfl, X7.out⟩
    · simp only [nowI, Bool.false_and, Bool.true_and, Bool.and_false, Bool.and_true, Bool.not_false, Bool.not_true, Bool.true_or, Bool.false_or, Bool.or_true, Bool.or_false, if_true, if_false, Bool.false_eq_true] at HT HFT
      go_enter Try.func16, Try.ntmps16
      go_wp2_with fail
      refine (chainAlive_any w).mono ?_
      rintro e w1 ⟨rfl, hb1⟩
      have X1 := Lib.hid hb1
      clear hb1
      go_wp2_with fail
      refine (HT.out w1).mono ?_
      rintro e w2 ⟨rfl, hb2⟩
      have X2 := Lib.hid (X1.out.trans (hb2.mono X1.out.size))
      obtain ⟨c3, w3, hc3, hrun, hr3, hbx3⟩ := HBS.out w2
      have X3 := Lib.hid (X2.out.trans (hbx3.mono X2.out.size))
      have R3 := Lib.hid hr3
      have C3 := Lib.hid hc3
      clear hb2 hr3 hbx3 X1 hc3
      go_wp2_with fail
      refine (HOF.out _ _ w3.heap.size w3 (Nat.le_refl _) R3.out C3.out).mono ?_
      rintro e w4 ⟨rfl, hb4⟩
      rw [HSH.out.1, HSH.out.2]
      have X4 := Lib.hid (X3.out.trans (hb4.mono X3.out.size))
      have hs4 := X4.out.size
      clear hb4 hrun X2 X3 R3 C3
      go_upto_region 6 with (refine wpList_store_row rfl 43 (.tmp 12) (.tmp 46) rfl w4.heap.size (ints .u8 D).toArray rfl rfl _ _ (heap_alloc_new w4 _) (size20 HSL.out) (old20 HSL.out) (ints_all_one _ _) ?_)
      rw [zero20]
      obtain ⟨h12, hx5⟩ := new20 w4 D
      generalize (w4.alloc (.cells (ints .u8 (List.replicate 20 0)).toArray 43)).setRow w4.heap.size (ints .u8 D).toArray = w5 at *
      obtain ⟨g, hg⟩ : ∃ g, g = w4.heap.size := ⟨_, rfl⟩
      rw [← hg] at h12
      rw [← hg]
      have H12 := Lib.hid h12
      have X5 := Lib.hid (X4.out.trans (hx5.mono hs4))
      clear h12 hx5 hg X4
      go_wp2_with fail
      refine (H1.out w5).mono ?_
      rintro e w6 ⟨rfl, hb6⟩
      have X6 := Lib.hid (X5.out.trans (hb6.mono X5.out.size))
      have G6 := Lib.hid (H12.out.ext hb6)
      clear hb6 X5 H12
      go_wp2_with fail
      refine (H2.out w6).mono ?_
      rintro e w7 ⟨rfl, hb7⟩
      have X7 := Lib.hid (X6.out.trans (hb7.mono X6.out.size))
      have h12 := G6.out.ext hb7
      have hrd : Rd w7 w7.heap.size 1 (some ⟨g, 0, none⟩) 20 (ints .u8 D) := ⟨by simp [ints, HSL.out], fun _ => ⟨g, 0, rfl, h12.lt, fun j u hu => by
        obtain ⟨x, hx, rfl⟩ := ints_get hu
        rw [Nat.zero_add]
        exact h12.cell hx⟩⟩
      have RD := Lib.hid hrd
      clear hb7 X6 G6 h12 hrd
      go_wp2_with fail
      refine (HFT.out w7).mono ?_
      rintro e w8 ⟨rfl, hb8⟩
      have X8 := Lib.hid (X7.out.trans (hb8.mono X7.out.size))
      clear hb8 X7
      go_wp2
      go_ret
      exact ⟨rfl, X8.out⟩
    · simp only [nowI, Bool.false_and, Bool.true_and, Bool.and_false, Bool.and_true, Bool.not_false, Bool.not_true, Bool.true_or, Bool.false_or, Bool.or_true, Bool.or_false, if_true, if_false, Bool.false_eq_true] at HT HFT
      go_enter Try.func16, Try.ntmps16
      go_wp2_with fail
      refine (chainAlive_any w).mono ?_
      rintro e w1 ⟨rfl, hb1⟩
      have X1 := Lib.hid hb1
      clear hb1
      go_wp2_with fail
      refine (HT.out w1).mono ?_
      rintro e w2 ⟨rfl, hb2⟩
      have X2 := Lib.hid (X1.out.trans (hb2.mono X1.out.size))
      obtain ⟨c3, w3, hc3, hrun, hr3, hbx3⟩ := HBS.out w2
      have X3 := Lib.hid (X2.out.trans (hbx3.mono X2.out.size))
      have R3 := Lib.hid hr3
      have C3 := Lib.hid hc3
      clear hb2 hr3 hbx3 X1 hc3
      go_wp2_with fail
      refine (HOF.out _ _ w3.heap.size w3 (Nat.le_refl _) R3.out C3.out).mono ?_
      rintro e w4 ⟨rfl, hb4⟩
      rw [HSH.out.1, HSH.out.2]
      have X4 := Lib.hid (X3.out.trans (hb4.mono X3.out.size))
      have hs4 := X4.out.size
      clear hb4 hrun X2 X3 R3 C3
      go_upto_region 6 with (refine wpList_store_row rfl 43 (.tmp 12) (.tmp 46) rfl w4.heap.size (ints .u8 D).toArray rfl rfl _ _ (heap_alloc_new w4 _) (size20 HSL.out) (old20 HSL.out) (ints_all_one _ _) ?_)
      rw [zero20]
      obtain ⟨h12, hx5⟩ := new20 w4 D
      generalize (w4.alloc (.cells (ints .u8 (List.replicate 20 0)).toArray 43)).setRow w4.heap.size (ints .u8 D).toArray = w5 at *
      obtain ⟨g, hg⟩ : ∃ g, g = w4.heap.size := ⟨_, rfl⟩
      rw [← hg] at h12
      rw [← hg]
      have H12 := Lib.hid h12
      have X5 := Lib.hid (X4.out.trans (hx5.mono hs4))
      clear h12 hx5 hg X4
      go_wp2_with fail
      refine (H1.out w5).mono ?_
      rintro e w6 ⟨rfl, hb6⟩
      have X6 := Lib.hid (X5.out.trans (hb6.mono X5.out.size))
      have G6 := Lib.hid (H12.out.ext hb6)
      clear hb6 X5 H12
      go_wp2_with fail
      refine (H2.out w6).mono ?_
      rintro e w7 ⟨rfl, hb7⟩
      have X7 := Lib.hid (X6.out.trans (hb7.mono X6.out.size))
      have h12 := G6.out.ext hb7
      have hrd : Rd w7 w7.heap.size 1 (some ⟨g, 0, none⟩) 20 (ints .u8 D) := ⟨by simp [ints, HSL.out], fun _ => ⟨g, 0, rfl, h12.lt, fun j u hu => by
        obtain ⟨x, hx, rfl⟩ := ints_get hu
        rw [Nat.zero_add]
        exact h12.cell hx⟩⟩
      have RD := Lib.hid hrd
      clear hb7 X6 G6 h12 hrd
      go_wp2_with fail
      refine (put_lit _ 20 20 _ D S w7 (by omega) (Nat.le_refl _) HD8.out RD.out HS.out).mono ?_
      rintro e w8 ⟨rfl, hb8⟩
      have X8 := Lib.hid (X7.out.trans (hb8.mono X7.out.size))
      have hb3 := HB3.out
      clear hb8 X7 RD
      go_wp2_with fail
      refine (HFT.out w8).mono ?_
      rintro e w9 ⟨rfl, hb9⟩
      have X9 := Lib.hid (X8.out.trans (hb9.mono X8.out.size))
      clear hb9 X8
      go_wp2
      go_ret
      exact ⟨rfl, X9.out⟩
    · simp only [nowI, Bool.false_and, Bool.true_and, Bool.and_false, Bool.and_true, Bool.not_false, Bool.not_true, Bool.true_or, Bool.false_or, Bool.or_true, Bool.or_false, if_true, if_false, Bool.false_eq_true] at HT HFT
      go_enter Try.func16, Try.ntmps16
      go_wp2_with fail
      refine (chainAlive_any w).mono ?_
      rintro e w1 ⟨rfl, hb1⟩
      have X1 := Lib.hid hb1
      clear hb1
      go_wp2_with fail
      refine (HT.out w1).mono ?_
      rintro e w2 ⟨rfl, hb2⟩
      have X2 := Lib.hid (X1.out.trans (hb2.mono X1.out.size))
      obtain ⟨c3, w3, hc3, hrun, hr3, hbx3⟩ := HBS.out w2
      have X3 := Lib.hid (X2.out.trans (hbx3.mono X2.out.size))
      have R3 := Lib.hid hr3
      have C3 := Lib.hid hc3
      clear hb2 hr3 hbx3 X1 hc3
      go_wp2_with fail
      refine (HOF.out _ _ w3.heap.size w3 (Nat.le_refl _) R3.out C3.out).mono ?_
      rintro e w4 ⟨rfl, hb4⟩
      rw [HSH.out.1, HSH.out.2]
      have X4 := Lib.hid (X3.out.trans (hb4.mono X3.out.size))
      have hs4 := X4.out.size
      clear hb4 hrun X2 X3 R3 C3
      go_upto_region 6 with (refine wpList_store_row rfl 43 (.tmp 12) (.tmp 46) rfl w4.heap.size (ints .u8 D).toArray rfl rfl _ _ (heap_alloc_new w4 _) (size20 HSL.out) (old20 HSL.out) (ints_all_one _ _) ?_)
      rw [zero20]
      obtain ⟨h12, hx5⟩ := new20 w4 D
      generalize (w4.alloc (.cells (ints .u8 (List.replicate 20 0)).toArray 43)).setRow w4.heap.size (ints .u8 D).toArray = w5 at *
      obtain ⟨g, hg⟩ : ∃ g, g = w4.heap.size := ⟨_, rfl⟩
      rw [← hg] at h12
      rw [← hg]
      have H12 := Lib.hid h12
      have X5 := Lib.hid (X4.out.trans (hx5.mono hs4))
      clear h12 hx5 hg X4
      go_wp2_with fail
      refine (H1.out w5).mono ?_
      rintro e w6 ⟨rfl, hb6⟩
      have X6 := Lib.hid (X5.out.trans (hb6.mono X5.out.size))
      have G6 := Lib.hid (H12.out.ext hb6)
      clear hb6 X5 H12
      go_wp2_with fail
      refine (H2.out w6).mono ?_
      rintro e w7 ⟨rfl, hb7⟩
      have X7 := Lib.hid (X6.out.trans (hb7.mono X6.out.size))
      have h12 := G6.out.ext hb7
      have hrd : Rd w7 w7.heap.size 1 (some ⟨g, 0, none⟩) 20 (ints .u8 D) := ⟨by simp [ints, HSL.out], fun _ => ⟨g, 0, rfl, h12.lt, fun j u hu => by
        obtain ⟨x, hx, rfl⟩ := ints_get hu
        rw [Nat.zero_add]
        exact h12.cell hx⟩⟩
      have RD := Lib.hid hrd
      clear hb7 X6 G6 h12 hrd
      go_wp2_with fail
      refine (put_lit _ 20 20 _ D S w7 (by omega) (Nat.le_refl _) HD8.out RD.out HS.out).mono ?_
      rintro e w8 ⟨rfl, hb8⟩
      have X8 := Lib.hid (X7.out.trans (hb8.mono X7.out.size))
      have hb3 := HB3.out
      clear hb8 X7 RD
      go_wp2_with fail
      refine (HFT.out w8).mono ?_
      rintro e w9 ⟨rfl, hb9⟩
      have X9 := Lib.hid (X8.out.trans (hb9.mono X8.out.size))
      clear hb9 X8
      go_wp2
      go_ret
      exact ⟨rfl, X9.out⟩
    · simp only [nowI, Bool.false_and, Bool.true_and, Bool.and_false, Bool.and_true, Bool.not_false, Bool.not_true, Bool.true_or, Bool.false_or, Bool.or_true, Bool.or_false, if_true, if_false, Bool.false_eq_true] at HT HFT
      go_enter Try.func16, Try.ntmps16
      go_wp2_with fail
      refine (chainAlive_any w).mono ?_
      rintro e w1 ⟨rfl, hb1⟩
      have X1 := Lib.hid hb1
      clear hb1
      go_wp2_with fail
      refine (HT.out w1).mono ?_
      rintro e w2 ⟨rfl, hb2⟩
      have X2 := Lib.hid (X1.out.trans (hb2.mono X1.out.size))
      obtain ⟨c3, w3, hc3, hrun, hr3, hbx3⟩ := HBS.out w2
      have X3 := Lib.hid (X2.out.trans (hbx3.mono X2.out.size))
      have R3 := Lib.hid hr3
      have C3 := Lib.hid hc3
      clear hb2 hr3 hbx3 X1 hc3
      go_wp2_with fail
      refine (HOF.out _ _ w3.heap.size w3 (Nat.le_refl _) R3.out C3.out).mono ?_
      rintro e w4 ⟨rfl, hb4⟩
      rw [HSH.out.1, HSH.out.2]
      have X4 := Lib.hid (X3.out.trans (hb4.mono X3.out.size))
      have hs4 := X4.out.size
      clear hb4 hrun X2 X3 R3 C3
      go_upto_region 6 with (refine wpList_store_row rfl 43 (.tmp 12) (.tmp 46) rfl w4.heap.size (ints .u8 D).toArray rfl rfl _ _ (heap_alloc_new w4 _) (size20 HSL.out) (old20 HSL.out) (ints_all_one _ _) ?_)
      rw [zero20]
      obtain ⟨h12, hx5⟩ := new20 w4 D
      generalize (w4.alloc (.cells (ints .u8 (List.replicate 20 0)).toArray 43)).setRow w4.heap.size (ints .u8 D).toArray = w5 at *
      obtain ⟨g, hg⟩ : ∃ g, g = w4.heap.size := ⟨_, rfl⟩
      rw [← hg] at h12
      rw [← hg]
      have H12 := Lib.hid h12
      have X5 := Lib.hid (X4.out.trans (hx5.mono hs4))
      clear h12 hx5 hg X4
      go_wp2_with fail
      refine (H1.out w5).mono ?_
      rintro e w6 ⟨rfl, hb6⟩
      have X6 := Lib.hid (X5.out.trans (hb6.mono X5.out.size))
      have G6 := Lib.hid (H12.out.ext hb6)
      clear hb6 X5 H12
      go_wp2_with fail
      refine (H2.out w6).mono ?_
      rintro e w7 ⟨rfl, hb7⟩
      have X7 := Lib.hid (X6.out.trans (hb7.mono X6.out.size))
      have h12 := G6.out.ext hb7
      have hrd : Rd w7 w7.heap.size 1 (some ⟨g, 0, none⟩) 20 (ints .u8 D) := ⟨by simp [ints, HSL.out], fun _ => ⟨g, 0, rfl, h12.lt, fun j u hu => by
        obtain ⟨x, hx, rfl⟩ := ints_get hu
        rw [Nat.zero_add]
        exact h12.cell hx⟩⟩
      have RD := Lib.hid hrd
      clear hb7 X6 G6 h12 hrd
      go_wp2_with fail
      refine (put_lit _ 20 20 _ D S w7 (by omega) (Nat.le_refl _) HD8.out RD.out HS.out).mono ?_
      rintro e w8 ⟨rfl, hb8⟩
      have X8 := Lib.hid (X7.out.trans (hb8.mono X7.out.size))
      have hb3 := HB3.out
      clear hb8 X7 RD
      go_wp2_with fail
      refine (HFT.out w8).mono ?_
      rintro e w9 ⟨rfl, hb9⟩
      have X9 := Lib.hid (X8.out.trans (hb9.mono X8.out.size))
      clear hb9 X8
      go_wp2_with fail
      refine (H4.out w9).mono ?_
      rintro e w10 ⟨rfl, hb10⟩
      have X10 := Lib.hid (X9.out.trans (hb10.mono X9.out.size))
      clear hb10 X9
      go_wp2
      go_ret
      exact ⟨rfl, X10.out⟩
    · simp only [nowI, Bool.false_and, Bool.true_and, Bool.and_false, Bool.and_true, Bool.not_false, Bool.not_true, Bool.true_or, Bool.false_or, Bool.or_true, Bool.or_false, if_true, if_false, Bool.false_eq_true] at HT HFT
      go_enter Try.func16, Try.ntmps16
      go_wp2_with fail
      refine (chainAlive_any w).mono ?_
      rintro e w1 ⟨rfl, hb1⟩
      have X1 := Lib.hid hb1
      clear hb1
      go_wp2_with fail
      refine (HT.out w1).mono ?_
      rintro e w2 ⟨rfl, hb2⟩
      have X2 := Lib.hid (X1.out.trans (hb2.mono X1.out.size))
      obtain ⟨c3, w3, hc3, hrun, hr3, hbx3⟩ := HBS.out w2
      have X3 := Lib.hid (X2.out.trans (hbx3.mono X2.out.size))
      have R3 := Lib.hid hr3
      have C3 := Lib.hid hc3
      clear hb2 hr3 hbx3 X1 hc3
      go_wp2_with fail
      refine (HOF.out _ _ w3.heap.size w3 (Nat.le_refl _) R3.out C3.out).mono ?_
      rintro e w4 ⟨rfl, hb4⟩
      rw [HSH.out.1, HSH.out.2]
      have X4 := Lib.hid (X3.out.trans (hb4.mono X3.out.size))
      have hs4 := X4.out.size
      clear hb4 hrun X2 X3 R3 C3
      go_upto_region 6 with (refine wpList_store_row rfl 43 (.tmp 12) (.tmp 46) rfl w4.heap.size (ints .u8 D).toArray rfl rfl _ _ (heap_alloc_new w4 _) (size20 HSL.out) (old20 HSL.out) (ints_all_one _ _) ?_)
      rw [zero20]
      obtain ⟨h12, hx5⟩ := new20 w4 D
      generalize (w4.alloc (.cells (ints .u8 (List.replicate 20 0)).toArray 43)).setRow w4.heap.size (ints .u8 D).toArray = w5 at *
      obtain ⟨g, hg⟩ : ∃ g, g = w4.heap.size := ⟨_, rfl⟩
      rw [← hg] at h12
      rw [← hg]
      have H12 := Lib.hid h12
      have X5 := Lib.hid (X4.out.trans (hx5.mono hs4))
      clear h12 hx5 hg X4
      go_wp2_with fail
      refine (H1.out w5).mono ?_
      rintro e w6 ⟨rfl, hb6⟩
      have X6 := Lib.hid (X5.out.trans (hb6.mono X5.out.size))
      have G6 := Lib.hid (H12.out.ext hb6)
      clear hb6 X5 H12
      go_wp2_with fail
      refine (H2.out w6).mono ?_
      rintro e w7 ⟨rfl, hb7⟩
      have X7 := Lib.hid (X6.out.trans (hb7.mono X6.out.size))
      have h12 := G6.out.ext hb7
      have hrd : Rd w7 w7.heap.size 1 (some ⟨g, 0, none⟩) 20 (ints .u8 D) := ⟨by simp [ints, HSL.out], fun _ => ⟨g, 0, rfl, h12.lt, fun j u hu => by
        obtain ⟨x, hx, rfl⟩ := ints_get hu
        rw [Nat.zero_add]
        exact h12.cell hx⟩⟩
      have RD := Lib.hid hrd
      clear hb7 X6 G6 h12 hrd
      go_wp2_with fail
      refine (put_lit _ 20 20 _ D S w7 (by omega) (Nat.le_refl _) HD8.out RD.out HS.out).mono ?_
      rintro e w8 ⟨rfl, hb8⟩
      have X8 := Lib.hid (X7.out.trans (hb8.mono X7.out.size))
      have hb3 := HB3.out
      clear hb8 X7 RD
      go_wp2_with fail
      refine (HFT.out w8).mono ?_
      rintro e w9 ⟨rfl, hb9⟩
      have X9 := Lib.hid (X8.out.trans (hb9.mono X8.out.size))
      clear hb9 X8
      go_wp2_with fail
      refine (H4.out w9).mono ?_
      rintro e w10 ⟨rfl, hb10⟩
      have X10 := Lib.hid (X9.out.trans (hb10.mono X9.out.size))
      clear hb10 X9
      go_wp2
      go_ret
      exact ⟨rfl, X10.out⟩
end Go.Proofs.Ytonblhannoinfaa
