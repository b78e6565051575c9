/- The walk of ChainNames. -/
import Derived.Test.YtonblhannoinfaaChainH
import Derived.Test.YtonblhannoinfaaChainSwitch
import Derived.Test.YtonblhannoinfaaHexNames
namespace Go.Proofs.Ytonblhannoinfaa
open Go.RowKit
set_option linter.unusedSimpArgs false
set_option linter.unusedVariables false
theorem take_lit (st key fresh : ByteArray) (has : Bool) (o : ByteArray) (er : Int) (h1 : takeO st key fresh has = o) (h2 : takeErr st key fresh has = er) (W : World) :
    Calls Try.prog 42 #[.string st, .string key, .string fresh, .bool has] W fun e w' => e = .returned (.tuple #[.string o, .int .i64 er]) ∧ Below W.heap.size W w' := by
  subst h1 h2
  exact take_any st key fresh has W
def newT : ByteArray := ⟨#[110, 101, 119]⟩
set_option maxHeartbeats 4000000 in
set_option maxRecDepth 100000 in
theorem chainNames_walk (w : World) :
    Calls Try.prog 13 #[] w fun e w' => e = .returned (.bool true) ∧ Below w.heap.size w w' := by
  obtain ⟨i0, hi, hz0, hz1, hz2⟩ := info_parts info_u8
  have hmk : ∀ W : World, ∃ w', (Instr.makeSlice 28 (.int .i64 16385) (.int .i64 16385)).run Try.prog W = .ok (.slice (some ⟨W.heap.size, 0, none⟩) 16385 16385) w' ∧ Below W.heap.size W w' ∧
      (convert 28 9 (.slice (some ⟨W.heap.size, 0, none⟩) 16385 16385)).run Try.prog w' = .ok (.string (strOfNums (List.replicate 16385 0))) w' := by
    intro W
    obtain ⟨w', h1, h2, h3⟩ := run_make_full (P := Try.prog) W W.heap.size 28 5 i0 (.int .u8 0) 1 Try.underlying28 hi hz0 hz1 .i64 .i64 16385 (by rw [hz2]; decide) (by unfold maxLen; decide) (Nat.le_refl _)
    refine ⟨w', h1, (Below.refl W.heap.size W).grown h3 (Nat.le_refl _) (by simp), ?_⟩
    have hr := Rd.of_own h2
    have e : (madeCells (Value.int .u8 0).cells (16385 * 1)).toList = ints .u8 (List.replicate 16385 0) := by
      rw [Nat.mul_one]; exact congrArg Array.toList (made_u8 16385)
    rw [e] at hr
    exact conv_rd hr
  have HMK := Lib.hid hmk
  have HKN := Lib.hid (fun W => next_any (strOfNums (List.replicate 16385 0)) (by rw [strOfNums_size]; simp [maxLen]) W)
  have hk1 : nextErr (strOfNums (List.replicate 16385 0)) = 4 := by unfold nextErr; rw [if_pos (by rw [strOfNums_size]; simp)]
  rw [hk1] at HKN
  have hM2 := fun W => make_ok abcT 2 W (by decide) (by omega)
  rw [show (2 : Int).toNat = 2 from rfl, keys_abc] at hM2
  have HM2 := Lib.hid hM2
  have HM0 := Lib.hid (fun W => make_ok ⟨#[]⟩ 0 W (by decide) (by omega))
  have HMA := Lib.hid (fun W => make_arg ⟨#[]⟩ (-1) W (by omega))
  have HMB := Lib.hid (fun W => make_arg ⟨#[]⟩ 257 W (by omega))
  have HT1 := Lib.hid (take_lit abcK abcT ⟨#[]⟩ false ⟨#[]⟩ 40 (by decide +kernel) (by decide +kernel))
  have HT2 := Lib.hid (take_lit (nextS abcK) abcK ⟨#[]⟩ false abcK 0 (by decide +kernel) (by decide +kernel))
  have HT3 := Lib.hid (take_lit (nextS abcK) abcK (nextS abcK) true (nextS abcK) 0 (by decide +kernel) (by decide +kernel))
  have HT4 := Lib.hid (take_lit (nextS abcK) abcK newT true ⟨#[]⟩ 40 (by decide +kernel) (by decide +kernel))
  have HT5 := Lib.hid (take_lit (nextS abcK) abcK newT false abcK 0 (by decide +kernel) (by decide +kernel))
  clear hmk hk1 hM2
  generalize strOfNums (List.replicate 16385 0) = Z at *
  generalize nextO Z = ZO at *
  generalize nextS abcK = K2 at *
  have habc := abcK_list
  go_enter Try.func13, Try.ntmps13
  go_wp2_with fail
  refine (chainAlive_any w).mono ?_
  rintro e w1 ⟨rfl, hb1⟩
  have X1 := Lib.hid hb1
  clear hb1
  go_wp2_with fail
  refine (HM2.out w1).mono ?_
  rintro e w2 ⟨v, rfl, hown, hb2⟩
  obtain ⟨g, c, rfl, hg, -, hcells⟩ := own_cells hown (by omega)
  have X2 := Lib.hid (X1.out.trans (hb2.mono X1.out.size))
  have c1 := hcells 1 _ rfl
  clear hown hb2 hcells
  go_wp2_with fail
  refine (HT1.out w2).mono ?_
  rintro e w3 ⟨rfl, hb3⟩
  have c3 : w3.cell? ⟨g, 1, none⟩ = some (.string K2) := (hb3.cell (p := ⟨g, 1, none⟩) hg).trans c1
  have hg3 : g < w3.heap.size := Nat.lt_of_lt_of_le hg hb3.size
  have X3 := Lib.hid (X2.out.trans (hb3.mono X2.out.size))
  clear hb3 c1
  go_wp2_with fail
  refine (HT2.out w3).mono ?_
  rintro e w4 ⟨rfl, hb4⟩
  have C4 : Hid (w4.cell? ⟨g, 1, none⟩ = some (.string K2)) := (hb4.cell (p := ⟨g, 1, none⟩) hg3).trans c3
  have hg4 : g < w4.heap.size := Nat.lt_of_lt_of_le hg3 hb4.size
  have X4 := Lib.hid (X3.out.trans (hb4.mono X3.out.size))
  clear hb4 c3 hg3
  go_wp2_with fail
  refine wp_region_typed rfl (by kernel_rfl) (by kernel_rfl) ?_
  refine tw_move (.inl (.slice (some ⟨g, 0, none⟩) 2 c)) (stable_is _) (.inl rfl) rfl (wd_none rfl) ?_
  refine tw_one (s := 39) (c := .slice (some ⟨g, 0, none⟩) 2 c) (.pointer (some ⟨g, 1, none⟩)) (by decide) rfl (wd_none rfl) (fun ρ W h1 h2 => by simp only [execOp, h1, h2]; go_simp) ?_
  refine tw_lds (p := ⟨g, 1, none⟩) (x := K2) rfl rfl (fun W hW => (hW.cell (p := ⟨g, 1, none⟩) hg4).trans C4.out) (wd_none rfl) ?_
  refine tw_move (.inl (.slice (some ⟨g, 0, none⟩) 2 c)) (stable_is _) (.inl rfl) rfl (wd_none rfl) ?_
  refine tw_one (s := 42) (c := .slice (some ⟨g, 0, none⟩) 2 c) (.pointer (some ⟨g, 1, none⟩)) (by decide) rfl (wd_none rfl) (fun ρ W h1 h2 => by simp only [execOp, h1, h2]; go_simp) ?_
  refine tw_lds (p := ⟨g, 1, none⟩) (x := K2) rfl rfl (fun W hW => (hW.cell (p := ⟨g, 1, none⟩) hg4).trans C4.out) (wd_none rfl) ?_
  refine tw_fnB #[.string K2, .string abcK, .string K2, .bool true] (.tuple #[.string K2, .int .i64 0]) rfl (fun W => by go_simp) rfl (wd_none rfl) (fun W _ => HT3.out W) ?_
  refine tw_move (.inl (.tuple #[.string K2, .int .i64 0])) (stable_is _) (.inl rfl) rfl (wd_none rfl) ?_
  refine tw_one (s := 38) (c := .tuple #[.string K2, .int .i64 0]) (.string K2) (by decide) rfl (wd_none rfl) (fun ρ W h1 h2 => by simp only [execOp, h1, h2]; go_simp) ?_
  refine tw_one (s := 38) (c := .tuple #[.string K2, .int .i64 0]) (.int .i64 0) (by decide) rfl (wd_none rfl) (fun ρ W h1 h2 => by simp only [execOp, h1, h2]; go_simp) ?_
  refine tw_move (.inl (.string K2)) (stable_is _) (.inr rfl) rfl (wd_none rfl) ?_
  refine tw_move (.inl (.int .i64 0)) (stable_is _) (.inr rfl) rfl (wd_none rfl) ?_
  dsimp only [wpT, List.reverse, List.reverseAux, FinT]
  intro w5 hW _
  simp only [Act.put, List.setIfInBounds_toArray, List.set_cons_zero, List.set_cons_succ]
  have X5 := Lib.hid (X4.out.drew.trans (Below.mono hW X4.out.size))
  have c5 : w5.cell? ⟨g, 1, none⟩ = some (.string K2) := (hW.cell (p := ⟨g, 1, none⟩) hg4).trans C4.out
  have hg5 : g < w5.heap.size := Nat.lt_of_lt_of_le hg4 hW.size
  clear hW
  go_wp2_with fail
  refine (HT4.out w5).mono ?_
  rintro e w6 ⟨rfl, hb6⟩
  have c6 : w6.cell? ⟨g, 1, none⟩ = some (.string K2) := (hb6.cell (p := ⟨g, 1, none⟩) hg5).trans c5
  have hg6 : g < w6.heap.size := Nat.lt_of_lt_of_le hg5 hb6.size
  have X6 := Lib.hid (X5.out.trans (hb6.mono X5.out.size))
  clear hb6 c5 hg5
  go_wp2_with fail
  refine (HT5.out w6).mono ?_
  rintro e w7 ⟨rfl, hb7⟩
  have C7 : Hid (w7.cell? ⟨g, 1, none⟩ = some (.string K2)) := (hb7.cell (p := ⟨g, 1, none⟩) hg6).trans c6
  have hg7 : g < w7.heap.size := Nat.lt_of_lt_of_le hg6 hb7.size
  have X7 := Lib.hid (X6.out.trans (hb7.mono X6.out.size))
  clear hb7 c6 hg6
  go_wp2_with fail
  refine (HMA.out w7).mono ?_
  rintro e w8 ⟨rfl, hb8⟩
  have C8 : Hid (w8.cell? ⟨g, 1, none⟩ = some (.string K2)) := (hb8.cell (p := ⟨g, 1, none⟩) hg7).trans C7.out
  have hg8 : g < w8.heap.size := Nat.lt_of_lt_of_le hg7 hb8.size
  have X8 := Lib.hid (X7.out.trans (hb8.mono X7.out.size))
  clear hb8 hg7
  go_wp2_with fail
  refine (HMB.out w8).mono ?_
  rintro e w9 ⟨rfl, hb9⟩
  have C9 : Hid (w9.cell? ⟨g, 1, none⟩ = some (.string K2)) := (hb9.cell (p := ⟨g, 1, none⟩) hg8).trans C8.out
  have hg9 : g < w9.heap.size := Nat.lt_of_lt_of_le hg8 hb9.size
  have X9 := Lib.hid (X8.out.trans (hb9.mono X8.out.size))
  clear hb9 hg8
  go_wp2_with fail
  refine (HM0.out w9).mono ?_
  rintro e w10 ⟨v10, rfl, hown10, hb10⟩
  obtain ⟨A10, c10, rfl⟩ := own_form hown10
  have C10 : Hid (w10.cell? ⟨g, 1, none⟩ = some (.string K2)) := (hb10.cell (p := ⟨g, 1, none⟩) hg9).trans C9.out
  have hg10 : g < w10.heap.size := Nat.lt_of_lt_of_le hg9 hb10.size
  have X10 := Lib.hid (X9.out.trans (hb10.mono X9.out.size))
  clear hb10 hg9 hown10
  obtain ⟨w11, hr11, hb11, hcv⟩ := HMK.out w10
  have C11 : Hid (w11.cell? ⟨g, 1, none⟩ = some (.string K2)) := (hb11.cell (p := ⟨g, 1, none⟩) hg10).trans C10.out
  have hg11 : g < w11.heap.size := Nat.lt_of_lt_of_le hg10 hb11.size
  have X11 := Lib.hid (X10.out.trans (hb11.mono X10.out.size))
  clear hb11 hg10
  go_wp2_with fail
  refine (HKN.out w11).mono ?_
  rintro e w12 ⟨rfl, hb12⟩
  have c12 : w12.cell? ⟨g, 1, none⟩ = some (.string K2) := (hb12.cell (p := ⟨g, 1, none⟩) hg11).trans C11.out
  have X12 := Lib.hid (X11.out.trans (hb12.mono X11.out.size))
  clear hb12 hr11 hcv
  go_wp2
  go_ret
  exact ⟨rfl, X12.out⟩
end Go.Proofs.Ytonblhannoinfaa
