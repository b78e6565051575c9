/- Layer 4 (chain): whether a key fits; the document's key behind a text. -/
import Derived.Test.YtonblhannoinfaaChainA
import Derived.Test.YtonblhannoinfaaShaH
namespace Go.Proofs.Ytonblhannoinfaa
open Go.RowKit
def fitsI (st key : ByteArray) : Bool := isI st 40 && (isI key 40 && ((nextS key).toList == st.toList))
theorem isI_len {s : ByteArray} (h : isI s 40 = true) : s.size = 40 := by
  unfold isI at h
  simp at h
  omega
set_option maxHeartbeats 1000000 in
set_option maxRecDepth 10000 in
theorem fits_any (st key : ByteArray) (w : World) :
    Calls Try.prog 48 #[.string st, .string key] w fun e w' => e = .returned (.bool (fitsI st key)) ∧ Below w.heap.size w w' := by
  cases h1 : isI st 40 with
  | false =>
    have HF := Box.mk (show fitsI st key = false by unfold fitsI; rw [h1]; rfl)
    go_enter Try.func48, Try.ntmps48
    go_wp2_with fail
    refine (is_lit st 40 false h1 _).mono ?_
    rintro e w1 ⟨rfl, hb1⟩
    go_wp2
    go_ret
    exact ⟨by rw [HF.out]; rfl, hb1⟩
  | true =>
    cases h2 : isI key 40 with
    | false =>
      have HF := Box.mk (show fitsI st key = false by unfold fitsI; rw [h1, h2]; rfl)
      go_enter Try.func48, Try.ntmps48
      go_wp2_with fail
      refine (is_lit st 40 true h1 _).mono ?_
      rintro e w1 ⟨rfl, hb1⟩
      have HB1 := Lib.hid hb1
      clear hb1
      go_wp2_with fail
      refine (is_lit key 40 false h2 _).mono ?_
      rintro e w2 ⟨rfl, hb2⟩
      have HB2 := Lib.hid (HB1.out.trans (hb2.mono HB1.out.size))
      clear hb2
      go_wp2
      go_ret
      exact ⟨by rw [HF.out]; rfl, HB2.out⟩
    | true =>
      have hF : fitsI st key = ((nextS key).toList == st.toList) := by unfold fitsI; rw [h1, h2]; rfl
      have hsz := isI_len h2
      have hO : nextO key = nextS key := by unfold nextO; rw [if_neg (by omega)]
      have hN := fun W => next_any key (by unfold maxLen; omega) W
      rw [hO] at hN
      have HN := Lib.hid hN
      have HF := Box.mk hF
      clear hF hO hN hsz
      generalize nextS key = S at *
      generalize nextErr key = er at *
      go_enter Try.func48, Try.ntmps48
      go_wp2_with fail
      refine (is_lit st 40 true h1 _).mono ?_
      rintro e w1 ⟨rfl, hb1⟩
      have HB1 := Lib.hid hb1
      clear hb1
      go_wp2_with fail
      refine (is_lit key 40 true h2 _).mono ?_
      rintro e w2 ⟨rfl, hb2⟩
      have HB2 := Lib.hid (HB1.out.trans (hb2.mono HB1.out.size))
      clear hb2
      go_wp2_with fail
      refine (HN.out _).mono ?_
      rintro e w3 ⟨rfl, hb3⟩
      have HB3 := Lib.hid (HB2.out.trans (hb3.mono HB2.out.size))
      clear hb3
      go_wp2
      go_ret
      exact ⟨by rw [HF.out]; rfl, HB3.out⟩
set_option maxHeartbeats 1000000 in
set_option maxRecDepth 10000 in
theorem refbehind_any (s : ByteArray) (hs : s.size ≤ 16384) (w : World) :
    Calls Try.prog 67 #[.string s] w fun e w' => e = .returned (.string (nextS s)) ∧ Below w.heap.size w w' := by
  obtain ⟨c, w1, hc, hrun, hr1, hb1⟩ := bytes_of s (by unfold maxLen; omega) w
  have HSL := Lib.hid (digestL_length (numsOf s))
  have HB1 := Lib.hid hb1
  have HD := Lib.hid (refdigest_any (some ⟨w.heap.size, 0, none⟩) s.size c w1.heap.size (numsOf s) w1 (Nat.le_refl _) hr1 (numsOf_b8 s) hs)
  have HD8 := Lib.hid (digestL_b8 (numsOf s))
  have HX := Box.mk (show nextS s = strOfNums (putL (digestL (numsOf s))) from rfl)
  clear hr1 hb1 hc
  generalize digestL (numsOf s) = D at *
  go_enter Try.func67, Try.ntmps67
  go_wp2_with fail
  refine HD.out.mono ?_
  rintro e w2 ⟨rfl, hb2⟩
  have HB2 := Lib.hid (HB1.out.trans (hb2.mono HB1.out.size))
  have hs2 := HB2.out.size
  clear hrun hb2 HD
  go_upto_region 2 with (refine wpList_store_row rfl 43 (.tmp 3) (.tmp 6) rfl w2.heap.size (ints .u8 D).toArray rfl rfl _ _ (heap_alloc_new w2 _) (size20 HSL.out) (old20 HSL.out) (ints_all_one _ _) ?_)
  rw [zero20]
  obtain ⟨h43, hx3⟩ := new20 w2 D
  generalize (w2.alloc (.cells (ints .u8 (List.replicate 20 0)).toArray 43)).setRow w2.heap.size (ints .u8 D).toArray = w3 at *
  have HB3 := Lib.hid (HB2.out.trans (hx3.mono hs2))
  have hs3 := HB3.out.size
  have hrd : Rd w3 w3.heap.size 1 (some ⟨w2.heap.size, 0, none⟩) 20 (ints .u8 D) := ⟨by simp [ints, HSL.out], fun _ => ⟨w2.heap.size, 0, rfl, h43.lt, fun j u hu => by
    obtain ⟨x, hx, rfl⟩ := ints_get hu
    rw [Nat.zero_add]
    exact h43.cell hx⟩⟩
  have HP := Lib.hid (put2_any (some ⟨w2.heap.size, 0, none⟩) 20 20 _ D w3 (by omega) (Nat.le_refl _) HD8.out hrd)
  clear h43 hx3 hrd HB1 HB2
  generalize strOfNums (putL D) = S at *
  go_wp2_with fail
  refine HP.out.mono ?_
  rintro e w4 ⟨rfl, hb4⟩
  have HB4 := Lib.hid (HB3.out.trans (hb4.mono hs3))
  clear hb4
  go_wp2
  go_ret
  exact ⟨by rw [HX.out]; rfl, HB4.out⟩
set_option maxHeartbeats 1000000 in
set_option maxRecDepth 10000 in
theorem refnext_any (s : ByteArray) (hs : s.size ≤ maxLen) (w : World) :
    Calls Try.prog 44 #[.string s] w fun e w' => e = .returned (.tuple #[.string (nextO s), .int .i64 (nextErr s)]) ∧ Below w.heap.size w w' := by
  unfold maxLen at hs
  by_cases h : 16384 < s.size
  · have h' : (16384 : Int) < (s.size : Int) := by omega
    have HX := Box.mk (show nextErr s = 4 by unfold nextErr; rw [if_pos h])
    have HY := Box.mk (show nextO s = ⟨#[]⟩ by unfold nextO; rw [if_pos h])
    go_enter Try.func44, Try.ntmps44
    go_wp2
    exact bodyPost_ret (v := .tuple #[.string ⟨#[]⟩, .int .i64 4]) (by simp [results, Try.results44, go_sem]) rfl ⟨by rw [HX.out, HY.out], Below.refl _ _⟩
  · have h' : ¬ (16384 : Int) < (s.size : Int) := by omega
    have HX := Box.mk (show nextErr s = 0 by unfold nextErr; rw [if_neg h])
    have HY := Box.mk (show nextO s = nextS s by unfold nextO; rw [if_neg h])
    have HR := Lib.hid (refbehind_any s (by omega))
    generalize nextS s = S at *
    go_enter Try.func44, Try.ntmps44
    go_wp2_with fail
    refine (HR.out _).mono ?_
    rintro e w1 ⟨rfl, hb1⟩
    go_wp2
    exact bodyPost_ret (v := .tuple #[.string S, .int .i64 0]) (by simp [results, Try.results44, go_sem]) rfl ⟨by rw [HX.out, HY.out], hb1⟩
set_option maxHeartbeats 1000000 in
set_option maxRecDepth 10000 in
theorem refis_any (s : ByteArray) (hs : s.size ≤ maxLen) (w : World) :
    Calls Try.prog 68 #[.string s] w fun e w' => e = .returned (.bool (isI s 40)) ∧ w = w' := by
  have H := Lib.hid (is2_any s 40 hs)
  clear hs
  generalize isI s 40 = b at *
  go_enter Try.func68, Try.ntmps68
  go_wp2_with fail
  refine (H.out _).mono ?_
  rintro e w1 ⟨rfl, rfl⟩
  go_wp2
  go_ret
  exact ⟨rfl, rfl⟩
set_option maxHeartbeats 1000000 in
set_option maxRecDepth 10000 in
theorem reffits_any (st key : ByteArray) (hs : st.size ≤ maxLen) (hk : key.size ≤ maxLen) (w : World) :
    Calls Try.prog 49 #[.string st, .string key] w fun e w' => e = .returned (.bool (fitsI st key)) ∧ Below w.heap.size w w' := by
  have H1 := Lib.hid (refis_any st hs)
  have H2 := Lib.hid (refis_any key hk)
  have hF : fitsI st key = (isI st 40 && (isI key 40 && ((nextS key).toList == st.toList))) := rfl
  have HF := Box.mk hF
  have HN := Lib.hid (fun (h : isI key 40 = true) => refbehind_any key (by have := isI_len h; omega))
  clear hF hs hk
  generalize nextS key = S at *
  generalize isI st 40 = b1 at *
  generalize isI key 40 = b2 at *
  cases b1 with
  | false =>
    go_enter Try.func49, Try.ntmps49
    go_wp2_with fail
    refine (H1.out _).mono ?_
    rintro e w1 ⟨rfl, rfl⟩
    go_wp2
    go_ret
    exact ⟨by rw [HF.out]; rfl, Below.refl _ _⟩
  | true =>
    cases b2 with
    | false =>
      go_enter Try.func49, Try.ntmps49
      go_wp2_with fail
      refine (H1.out _).mono ?_
      rintro e w1 ⟨rfl, rfl⟩
      go_wp2_with fail
      refine (H2.out _).mono ?_
      rintro e w1 ⟨rfl, rfl⟩
      go_wp2
      go_ret
      exact ⟨by rw [HF.out]; rfl, Below.refl _ _⟩
    | true =>
      go_enter Try.func49, Try.ntmps49
      go_wp2_with fail
      refine (H1.out _).mono ?_
      rintro e w1 ⟨rfl, rfl⟩
      go_wp2_with fail
      refine (H2.out _).mono ?_
      rintro e w1 ⟨rfl, rfl⟩
      go_wp2_with fail
      refine (HN.out (by trivial) _).mono ?_
      rintro e w3 ⟨rfl, hb3⟩
      go_wp2
      go_ret
      exact ⟨by rw [HF.out]; rfl, hb3⟩
end Go.Proofs.Ytonblhannoinfaa
