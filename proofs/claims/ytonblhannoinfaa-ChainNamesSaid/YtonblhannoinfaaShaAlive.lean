/- Layer 3 (sha): a text's bytes; the sha laws' examples: they answer true. -/
import Derived.Test.YtonblhannoinfaaShaI
import Derived.Test.YtonblhannoinfaaHexAlive
namespace Go.Proofs.Ytonblhannoinfaa
open Go.RowKit
/-- '[]byte(s)' -/
theorem bytes_of (s : ByteArray) (hs : s.size ≤ maxLen) (w : World) : ∃ c w', s.size ≤ c ∧ (convert 9 28 (.string s)).run Try.prog w = .ok (.slice (some ⟨w.heap.size, 0, none⟩) s.size c) w' ∧ Rd w' w'.heap.size 1 (some ⟨w.heap.size, 0, none⟩) s.size (ints .u8 (numsOf s)) ∧ Below w.heap.size w w' := by
  refine ⟨_, _, grownCap_ge w s.size 0 5, run_bytes_of_string (P := Try.prog) w 9 28 5 s Try.underlying9 Try.underlying28 Try.underlying5, ?_, (Below.refl _ w).drew.alloc (Nat.le_refl _) _⟩
  refine ⟨by simp [ints, numsOf_length], fun _ => ⟨w.heap.size, 0, rfl, by simp, fun j u hu => ?_⟩⟩
  rw [Nat.zero_add]
  obtain ⟨x, hx, rfl⟩ := ints_get hu
  have hj : j < s.size := by
    have := (List.getElem?_eq_some_iff.1 hx).1
    rwa [numsOf_length] at this
  rw [numsOf_get s j hj] at hx
  injection hx with hx
  subst hx
  rw [cell_of_row _ w.heap.size j _ 5 _ (heap_alloc_new w.drew _)]
  unfold bytesRow
  have hjd : j < s.data.size := hj
  rw [Array.getElem?_append_left (by simpa using hjd), Array.getElem?_map, Array.getElem?_eq_getElem hjd]
  rfl
set_option maxHeartbeats 1000000 in
set_option maxRecDepth 10000 in
theorem is_sha (s want : ByteArray) (hs : s.size ≤ 16384) (hw : strOfNums (putL (digestL (numsOf s))) = want) (w : World) :
    Calls Try.prog 35 #[.string s, .string want] w fun e w' => e = .returned (.bool true) ∧ Below w.heap.size w w' := by
  obtain ⟨c, w1, hc, hrun, hr1, hb1⟩ := bytes_of s (by unfold maxLen; omega) w
  have hl : (numsOf s).length = s.size := numsOf_length s
  have hsh : shaErr (numsOf s).length = 0 ∧ shaO (numsOf s) = digestL (numsOf s) := ⟨by unfold shaErr; rw [if_neg (by omega)], by unfold shaO; rw [if_neg (by omega)]⟩
  have HSH := Lib.hid hsh
  have HR1 := Lib.hid hr1
  have HB1 := Lib.hid hb1
  have HW := Box.mk hw
  have HSL := Lib.hid (digestL_length (numsOf s))
  have HD8 := Lib.hid (digestL_b8 (numsOf s))
  have HOF := Lib.hid (of_all_sha (some ⟨w.heap.size, 0, none⟩) s.size c w1.heap.size (numsOf s) w1 (Nat.le_refl _) hr1 (numsOf_b8 s) hc (by omega))
  clear hsh hr1 hb1 hw hl hc
  go_enter Try.func35, Try.ntmps35
  go_wp2_with fail
  refine HOF.out.mono ?_
  rintro e w2 ⟨rfl, hb2⟩
  rw [HSH.out.1, HSH.out.2]
  have HB2 := Lib.hid (HB1.out.trans (hb2.mono HB1.out.size))
  have hs2 := HB2.out.size
  generalize digestL (numsOf s) = D at *
  clear hrun hb2
  go_upto_region 2 with (refine wpList_store_row rfl 43 (.tmp 5) (.tmp 11) rfl w2.heap.size (ints .u8 D).toArray rfl rfl _ _ (heap_alloc_new w2 _) (size20 HSL.out) (old20 HSL.out) (ints_all_one _ _) ?_)
  rw [zero20]
  obtain ⟨h53, hx3⟩ := new20 w2 D
  generalize (w2.alloc (.cells (ints .u8 (List.replicate 20 0)).toArray 43)).setRow w2.heap.size (ints .u8 D).toArray = w3 at *
  have HB3 := Lib.hid (HB2.out.trans (hx3.mono hs2))
  have hs3 := HB3.out.size
  have hrd : Rd w3 w3.heap.size 1 (some ⟨w2.heap.size, 0, none⟩) 20 (ints .u8 D) := ⟨by simp [ints, HSL.out], fun _ => ⟨w2.heap.size, 0, rfl, h53.lt, fun j u hu => by
    obtain ⟨x, hx, rfl⟩ := ints_get hu
    rw [Nat.zero_add]
    exact h53.cell hx⟩⟩
  have HRD := Lib.hid hrd
  clear h53 hx3 hrd
  go_wp2_with fail
  refine (put_lit _ 20 20 _ D _ _ (by omega) (Nat.le_refl _) HD8.out HRD.out HW.out).mono ?_
  rintro e w4 ⟨rfl, hb4⟩
  have HB4 := Lib.hid (HB3.out.trans (hb4.mono hs3))
  clear hb4
  go_wp2
  go_ret
  exact ⟨rfl, HB4.out⟩
set_option maxHeartbeats 1000000 in
set_option maxRecDepth 10000 in
theorem shaAlive_any (w : World) : Calls Try.prog 36 #[] w fun e w' => e = .returned (.bool true) ∧ Below w.heap.size w w' := by
  have H1 := Lib.hid (is_sha ⟨#[97, 98, 99]⟩ ⟨ "a9993e364706816aba3e25717850c26c9cd0d89d".toUTF8.data⟩ (by decide) (by decide +kernel))
  have H2 := Lib.hid (is_sha ⟨#[]⟩ ⟨ "da39a3ee5e6b4b0d3255bfef95601890afd80709".toUTF8.data⟩ (by decide) (by decide +kernel))
  go_enter Try.func36, Try.ntmps36
  go_wp2_with fail
  refine (H1.out _).mono ?_
  rintro e w1 ⟨rfl, hb1⟩
  go_wp2_with fail
  refine (H2.out _).mono ?_
  rintro e w2 ⟨rfl, hb2⟩
  have HB := Lib.hid (hb1.trans (hb2.mono hb1.size))
  clear hb1 hb2
  go_wp2
  go_ret
  exact ⟨rfl, HB.out⟩
end Go.Proofs.Ytonblhannoinfaa
