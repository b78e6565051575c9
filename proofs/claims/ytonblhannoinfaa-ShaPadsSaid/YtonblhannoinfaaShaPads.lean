/- The walk of ShaPads. -/
import Derived.Test.YtonblhannoinfaaShaAlive
namespace Go.Proofs.Ytonblhannoinfaa
open Go.RowKit
theorem padL_tail (n : Nat) : (padL n).drop ((padL n).length - 8) = bytesL [0, 8 * (n : Int)] := by
  have hl : (bytesL [0, 8 * (n : Int)]).length = 8 := by rw [bytesL_length]; rfl
  have h : padL n = (128 :: List.replicate ((119 - n % 64) % 64) 0) ++ bytesL [0, 8 * (n : Int)] := rfl
  have h2 : (padL n).length - 8 = (128 :: List.replicate ((119 - n % 64) % 64) (0 : Int)).length := by rw [h, List.length_append, hl]; omega
  rw [h2, h, List.drop_left]
theorem words_tail (n : Nat) (hn : n ≤ 16384) : wordsL (bytesL [0, 8 * (n : Int)]) 2 = [0, 8 * (n : Int)] := by
  have h := ofWds_bytesL [0, 8 * (n : Int)] (by intro x hx; simp at hx; omega) (by simp)
  have hl : (bytesL [0, 8 * (n : Int)]).length = 8 := by rw [bytesL_length]; rfl
  unfold ofWds at h
  rw [hl] at h
  simpa using h
theorem padL_inj {n m : Nat} (hn : n ≤ 16384) (hm : m ≤ 16384) (h : padL n = padL m) : n = m := by
  have h1 := padL_tail n
  have h2 := padL_tail m
  rw [h, h2] at h1
  have h3 := words_tail n hn
  rw [← h1, words_tail m hm] at h3
  simp at h3
  omega
theorem pad_same {n m : Int} (hn : 0 ≤ n ∧ n ≤ 16384) (hm : 0 ≤ m ∧ m ≤ 16384) : ((strOfNums (padO n)).toList == (strOfNums (padO m)).toList) = (n == m) := by
  have e1 : padO n = padL n.toNat := by unfold padO; rw [if_pos hn]
  have e2 : padO m = padL m.toNat := by unfold padO; rw [if_pos hm]
  rw [Bool.eq_iff_iff, beq_iff_eq, beq_iff_eq]
  constructor
  · intro h
    rw [ByteArray.toList_eq, ByteArray.toList_eq] at h
    have h2 : strOfNums (padO n) = strOfNums (padO m) := by
      apply ByteArray.ext
      exact Array.ext' h
    rw [e1, e2] at h2
    have h3 := padL_inj (n := n.toNat) (m := m.toNat) (by omega) (by omega) (str_inj (padL_b8 _) (padL_b8 _) h2)
    omega
  · rintro rfl; rfl
set_option maxHeartbeats 4000000 in
set_option maxRecDepth 10000 in
theorem shaPads_walk (n m : Int) (w : World) (hn : -9223372036854775808 ≤ n ∧ n ≤ 9223372036854775807) (hm : -9223372036854775808 ≤ m ∧ m ≤ 9223372036854775807) :
    Calls Try.prog 12 #[.int .i64 n, .int .i64 m] w fun e w' => e = .returned (.bool true) ∧ Below w.heap.size w w' := by
  by_cases h1 : 0 ≤ n ∧ n ≤ 16384
  · by_cases h2 : 0 ≤ m ∧ m ≤ 16384
    · have e1 : padErr n = 0 ∧ padO n = padL n.toNat := ⟨by unfold padErr; rw [if_pos h1], by unfold padO; rw [if_pos h1]⟩
      have e2 : padErr m = 0 := by unfold padErr; rw [if_pos h2]
      have E1 := Lib.hid e1
      have E2 := Lib.hid e2
      have hsame := pad_same h1 h2
      have HSAME := Lib.hid hsame
      have hT : (n.toNat + (padL n.toNat).length) % 64 = 0 ∧ 9 ≤ (padL n.toNat).length ∧ (padL n.toNat).length ≤ 72 := by rw [padL_length]; omega
      have HT := Lib.hid hT
      have HTAIL := Lib.hid (padL_tail n.toNat)
      have HWD := Lib.hid (words_tail n.toNat (by omega))
      have HP8 := Lib.hid (padL_b8 n.toNat)
      have HNN : Hid ((n.toNat : Int) = n) := Int.toNat_of_nonneg h1.1
      clear e1 e2 hsame hT
      go_enter Try.func12, Try.ntmps12
      go_wp2_with fail
      refine (shaAlive_any w).mono ?_
      rintro e w1 ⟨rfl, hb1⟩
      have HB1 := Lib.hid hb1
      clear hb1
      go_wp2_with fail
      refine (pad_any n _ hn.1 hn.2).mono ?_
      rintro e w2 ⟨A2, c2, rfl, hr2, hb2, hc2⟩
      have HB2 := Lib.hid (HB1.out.trans (hb2.mono HB1.out.size))
      have HR2 := Lib.hid hr2
      rw [E1.out.1]
      have HC2 := Lib.hid hc2
      clear hr2 hb2 hc2
      go_wp2_with fail
      refine (pad_any m _ hm.1 hm.2).mono ?_
      rintro e w3 ⟨A3, c3, rfl, hr3, hb3, _⟩
      have HB3 := Lib.hid (HB2.out.trans (hb3.mono HB2.out.size))
      have hr23 := (HR2.out.below hb3 (Nat.le_refl _)).more hb3.size
      have HR3 := Lib.hid hr3
      rw [E2.out]
      obtain ⟨ht64, ht9, ht72⟩ := HT.out
      have HT64 := Lib.hid ht64
      have HR23 := Lib.hid hr23
      generalize htt : (padO n).length = t at *
      have ht : (padL n.toNat).length = t := by rw [← E1.out.2]; exact htt
      obtain ⟨A4, hcut, hrd4⟩ := cut_u8s A2 t c2 (t - 8) (by omega)
      have hcast : ((t - 8 : Nat) : Int) = (t : Int) - 8 := by omega
      rw [hcast, show t - (t - 8) = 8 by omega] at hcut
      have hrd4' := hrd4 _ _ _ HC2.out hr23
      rw [show t - (t - 8) = 8 by omega, E1.out.2] at hrd4'
      have hdrop : (ints .u8 (padL n.toNat)).drop (t - 8) = ints .u8 (bytesL [0, 8 * (n.toNat : Int)]) := by
        rw [← HTAIL.out, ht]; simp [ints, List.map_drop]
      rw [hdrop] at hrd4'
      obtain ⟨b0, o0, u0, hA0, hbl0, hu0, hcell0⟩ := hr23.at_ (k := 0) (by omega)
      rw [E1.out.2, show padL n.toNat = 128 :: (padL n.toNat).tail from rfl] at hu0
      obtain rfl : u0 = .int .u8 128 := by simpa [ints] using hu0.symm
      have HRD4 := Lib.hid hrd4'
      have hmod : (n + (t : Int)) % 64 = 0 := by
        have h1 := HNN.out
        have h2 : (n.toNat + t) % 64 = 0 := by rw [← ht]; exact HT64.out
        omega
      have HMOD := Lib.hid hmod
      have hH72 : t ≤ 72 := by omega
      have hH9 : 9 ≤ t := by omega
      have HCELL := Lib.hid hcell0
      have hs3 := HB3.out.size
      have HA0 := Lib.hid hA0
      have hmin : min (t : Int) 8 = 8 := by omega
      clear hdrop hrd4' hu0 hrd4 hr23 hmod ht64 ht9 ht72 HT HT64 HC2 HR2 HTAIL HP8 hr3 hb3 hcell0 hcast hA0
      have HTT := Box.mk htt
      have HT2 := Box.mk ht
      clear htt ht
      go_wp2_with fail
      refine (of_ok A4 8 _ 2 w3.heap.size _ w3 (by omega) rfl (Nat.le_refl _) (bytesL_bd _) HRD4.out).mono ?_
      rw [HWD.out]
      rintro e w4 ⟨v4, rfl, hown4, hb4⟩
      obtain ⟨A5, c5, rfl⟩ := own_form hown4
      have HR4 := Lib.hid (Rd.of_own hown4)
      have HB4 := Lib.hid (HB3.out.trans (hb4.mono hs3))
      have HR3' := Lib.hid ((HR3.out.below hb4 (Nat.le_refl _)).more hb4.size)
      have HC0 : Hid (w4.cell? ⟨b0, o0, none⟩ = some (.int .u8 128)) := (hb4.cell (p := ⟨b0, o0, none⟩) hbl0).trans HCELL.out
      obtain ⟨b1, o1, u1, hA1, -, hu1, hc1⟩ := HR4.out.at_ (k := 0) (by omega)
      obtain ⟨b2, o2, u2, hA2, -, hu2, hc2⟩ := HR4.out.at_ (k := 1) (by omega)
      have hn8 : (8 * (n.toNat : Int)) = 8 * n := by rw [HNN.out]
      rw [hn8] at hu1 hu2
      obtain rfl : u1 = .int .u32 0 := by simpa [ints] using hu1.symm
      obtain rfl : u2 = .int .u32 (8 * n) := by simpa [ints] using hu2.symm
      obtain rfl := HA0.out
      subst hA1
      obtain ⟨rfl, rfl⟩ : b1 = b2 ∧ o1 = o2 := by simpa using hA2
      have hcv1 := conv_rd (c := c2) ((HR23.out.below hb4 (Nat.le_refl _)).more hb4.size)
      have hcv2 := conv_rd (c := c3) HR3'.out
      have HCV1 := Lib.hid hcv1
      have HCV2 := Lib.hid hcv2
      have HC1 := Lib.hid hc1
      have HC2 := Lib.hid hc2
      have hc0 := HC0.out
      have hmod := HMOD.out
      clear hu1 hu2 hA2 hown4 hb4 HR4 HR3' HR3 HR23 HRD4 HCELL hn8 HWD hcut hmin hcv1 hcv2 HC0 HNN
      rw [Nat.add_zero] at hc1
      generalize strOfNums (padO n) = S1 at *
      generalize strOfNums (padO m) = S2 at *
      go_wp2_with (first | rw [HCV1.out] | rw [HCV2.out])
      rw [HSAME.out, beq_self_eq_true]
      go_ret
      exact ⟨rfl, HB4.out⟩
    · have e1 : padErr n = 0 := by unfold padErr; rw [if_pos h1]
      have e2 : padErr m = 4 := by unfold padErr; rw [if_neg h2]
      have E1 := Lib.hid e1
      have E2 := Lib.hid e2
      clear e1 e2
      go_enter Try.func12, Try.ntmps12
      go_wp2_with fail
      refine (shaAlive_any w).mono ?_
      rintro e w1 ⟨rfl, hb1⟩
      have HB1 := Lib.hid hb1
      clear hb1
      go_wp2_with fail
      refine (pad_any n _ hn.1 hn.2).mono ?_
      rintro e w2 ⟨A2, c2, rfl, -, hb2, -⟩
      have HB2 := Lib.hid (HB1.out.trans (hb2.mono HB1.out.size))
      rw [E1.out]
      clear hb2
      go_wp2_with fail
      refine (pad_any m _ hm.1 hm.2).mono ?_
      rintro e w3 ⟨A3, c3, rfl, -, hb3, -⟩
      have HB3 := Lib.hid (HB2.out.trans (hb3.mono HB2.out.size))
      rw [E2.out]
      clear hb3
      go_wp2
      go_ret
      exact ⟨rfl, HB3.out⟩
  · have e1 : padErr n = 4 := by unfold padErr; rw [if_neg h1]
    have E1 := Lib.hid e1
    clear e1
    go_enter Try.func12, Try.ntmps12
    go_wp2_with fail
    refine (shaAlive_any w).mono ?_
    rintro e w1 ⟨rfl, hb1⟩
    have HB1 := Lib.hid hb1
    clear hb1
    go_wp2_with fail
    refine (pad_any n _ hn.1 hn.2).mono ?_
    rintro e w2 ⟨A2, c2, rfl, -, hb2, -⟩
    have HB2 := Lib.hid (HB1.out.trans (hb2.mono HB1.out.size))
    rw [E1.out]
    clear hb2
    go_wp2_with fail
    refine (pad_any m _ hm.1 hm.2).mono ?_
    rintro e w3 ⟨A3, c3, rfl, -, hb3, -⟩
    have HB3 := Lib.hid (HB2.out.trans (hb3.mono HB2.out.size))
    clear hb3
    generalize padErr m = pe
    go_wp2
    go_ret
    exact ⟨rfl, HB3.out⟩
end Go.Proofs.Ytonblhannoinfaa
