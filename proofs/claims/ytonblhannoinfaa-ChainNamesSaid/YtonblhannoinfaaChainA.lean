/- Layer 4 (chain): the key behind a text. -/
import Derived.Test.YtonblhannoinfaaShaAlive
namespace Go.Proofs.Ytonblhannoinfaa
open Go.RowKit
def nextS (s : ByteArray) : ByteArray := strOfNums (putL (digestL (numsOf s)))
def nextErr (s : ByteArray) : Int := if 16384 < s.size then 4 else 0
def nextO (s : ByteArray) : ByteArray := if 16384 < s.size then ⟨#[]⟩ else nextS s
theorem nextS_size (s : ByteArray) : (nextS s).size = 40 := by
  unfold nextS
  rw [strOfNums_size, putL_length, digestL_length]
set_option maxHeartbeats 1000000 in
set_option maxRecDepth 10000 in
theorem next_any (s : ByteArray) (hs : s.size ≤ maxLen) (w : World) :
    Calls Try.prog 43 #[.string s] w fun e w' => e = .returned (.tuple #[.string (nextO s), .int .i64 (nextErr s)]) ∧ Below w.heap.size w w' := by
  obtain ⟨c, w1, hc, hrun, hr1, hb1⟩ := bytes_of s hs w
  have hl : (numsOf s).length = s.size := numsOf_length s
  have h63 : s.size ≤ 9223372036854775807 := by unfold maxLen at hs; omega
  have HSL := Lib.hid (shaO_length (numsOf s))
  have HB1 := Lib.hid hb1
  have HOF := Lib.hid (of_all_sha (some ⟨w.heap.size, 0, none⟩) s.size c w1.heap.size (numsOf s) w1 (Nat.le_refl _) hr1 (numsOf_b8 s) hc h63)
  have hcase : (16384 < s.size ∧ shaErr (numsOf s).length = 4 ∧ nextErr s = 4 ∧ nextO s = ⟨#[]⟩) ∨ (¬ 16384 < s.size ∧ shaErr (numsOf s).length = 0 ∧ shaO (numsOf s) = digestL (numsOf s) ∧ nextErr s = 0 ∧ nextO s = strOfNums (putL (digestL (numsOf s)))) := by
    by_cases h : 16384 < s.size
    · refine .inl ⟨h, ?_, ?_, ?_⟩
      · unfold shaErr; rw [if_pos (by omega)]
      · unfold nextErr; rw [if_pos h]
      · unfold nextO; rw [if_pos h]
    · refine .inr ⟨h, ?_, ?_, ?_, ?_⟩
      · unfold shaErr; rw [if_neg (by omega)]
      · unfold shaO; rw [if_neg (by omega)]
      · unfold nextErr; rw [if_neg h]
      · unfold nextO; rw [if_neg h]; rfl
  have HCASE := Lib.hid hcase
  have HD8 := Lib.hid (digestL_b8 (numsOf s))
  clear hcase hr1 hb1 hl hc hs h63
  go_enter Try.func43, Try.ntmps43
  go_wp2_with fail
  refine HOF.out.mono ?_
  rintro e w2 ⟨rfl, hb2⟩
  have HB2 := Lib.hid (HB1.out.trans (hb2.mono HB1.out.size))
  have hs2 := HB2.out.size
  obtain ⟨D, hD⟩ : ∃ D, D = shaO (numsOf s) := ⟨_, rfl⟩
  have HDO := Box.mk hD
  rw [← hD] at HSL
  rw [← hD]
  clear hrun hb2 hD
  generalize shaErr (numsOf s).length = er at *
  go_upto_region 2 with (refine wpList_store_row rfl 43 (.tmp 4) (.tmp 10) rfl w2.heap.size (ints .u8 D).toArray rfl rfl _ _ (heap_alloc_new w2 _) (size20 HSL.out) (old20 HSL.out) (ints_all_one _ _) ?_)
  rw [zero20]
  obtain ⟨h43, hx3⟩ := new20 w2 D
  generalize (w2.alloc (.cells (ints .u8 (List.replicate 20 0)).toArray 43)).setRow w2.heap.size (ints .u8 D).toArray = w3 at *
  have HB3 := Lib.hid (HB2.out.trans (hx3.mono hs2))
  have hs3 := HB3.out.size
  have hrd : Rd w3 w3.heap.size 1 (some ⟨w2.heap.size, 0, none⟩) 20 (ints .u8 D) := ⟨by simp [ints, HSL.out], fun _ => ⟨w2.heap.size, 0, rfl, h43.lt, fun j u hu => by
    obtain ⟨x, hx, rfl⟩ := ints_get hu
    rw [Nat.zero_add]
    exact h43.cell hx⟩⟩
  have HRD := Lib.hid hrd
  clear h43 hx3 hrd HB1 HB2 HOF
  rcases HCASE.out with ⟨_, rfl, h2, h3⟩ | ⟨_, rfl, h1, h2, h3⟩
  · have HX := Box.mk h2
    have HY := Box.mk h3
    clear h2 h3 HCASE
    go_wp2
    exact bodyPost_ret (v := .tuple #[.string ⟨#[]⟩, .int .i64 4]) (by simp [results, Try.results43, go_sem]) rfl ⟨by rw [HX.out, HY.out], HB3.out⟩
  · have HX := Box.mk h2
    have HY := Box.mk h3
    clear HCASE
    have hD2 : D = digestL (numsOf s) := by rw [HDO.out, h1]
    have HP := Lib.hid (put_any (some ⟨w2.heap.size, 0, none⟩) 20 20 _ D w3 (by omega) (Nat.le_refl _) (by rw [hD2]; exact HD8.out) HRD.out)
    rw [hD2] at HP
    clear h2 h3 h1 hD2
    generalize strOfNums (putL (digestL (numsOf s))) = S at *
    clear HD8 HDO
    go_wp2_with fail
    refine HP.out.mono ?_
    rintro e w4 ⟨rfl, hb4⟩
    have HB4 := Lib.hid (HB3.out.trans (hb4.mono hs3))
    clear hb4
    go_wp2
    exact bodyPost_ret (v := .tuple #[.string S, .int .i64 0]) (by simp [results, Try.results43, go_sem]) rfl ⟨by rw [HX.out, HY.out], HB4.out⟩
end Go.Proofs.Ytonblhannoinfaa
