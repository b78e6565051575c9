/- The walk of ChainGoes. -/
import Derived.Test.YtonblhannoinfaaChainSwitch
namespace Go.Proofs.Ytonblhannoinfaa
open Go.RowKit
set_option linter.unusedSimpArgs false
set_option linter.unusedVariables false
theorem fits_two (s : ByteArray) (q : Nat) : fitsI (keyAt s (q + 3)) (keyAt s (q + 1)) = ((keyAt s (q + 3)).toList == (keyAt s (q + 2)).toList) := by
  unfold fitsI
  rw [keyAt_is s (q + 2), keyAt_is s q]
  show (true && (true && ((keyAt s (q + 2)).toList == (keyAt s (q + 3)).toList))) = _
  rw [Bool.true_and, Bool.true_and, Bool.eq_iff_iff, beq_iff_eq, beq_iff_eq]
  exact eq_comm
set_option maxHeartbeats 4000000 in
set_option maxRecDepth 10000 in
theorem chainGoes_walk (seed : ByteArray) (n : Int) (w : World) (hs : seed.size ≤ maxLen) (hn : -9223372036854775808 ≤ n ∧ n ≤ 9223372036854775807) :
    Calls Try.prog 15 #[.string seed, .int .i64 n] w fun e w' => e = .returned (.bool true) ∧ Below w.heap.size w w' := by
  have hcase : (300 : Int) < (seed.size : Int) ∨ (¬ (300 : Int) < (seed.size : Int) ∧ n < 1) ∨ (¬ (300 : Int) < (seed.size : Int) ∧ ¬ n < 1 ∧ 6 < n) ∨ (¬ (300 : Int) < (seed.size : Int) ∧ ¬ n < 1 ∧ ¬ 6 < n) := by omega
  rcases hcase with h1 | ⟨h1, h2⟩ | ⟨h1, h2, h3⟩ | ⟨h1, h2, h3⟩
  · go_enter Try.func15, Try.ntmps15
    go_wp2_with fail
    refine (chainAlive_any w).mono ?_
    rintro e w1 ⟨rfl, hb1⟩
    go_wp2
    go_ret
    exact ⟨rfl, hb1⟩
  · go_enter Try.func15, Try.ntmps15
    go_wp2_with fail
    refine (chainAlive_any w).mono ?_
    rintro e w1 ⟨rfl, hb1⟩
    go_wp2
    go_ret
    exact ⟨rfl, hb1⟩
  · go_enter Try.func15, Try.ntmps15
    go_wp2_with fail
    refine (chainAlive_any w).mono ?_
    rintro e w1 ⟨rfl, hb1⟩
    go_wp2
    go_ret
    exact ⟨rfl, hb1⟩
  · obtain ⟨N, rfl⟩ : ∃ N : Nat, n = (N : Int) := ⟨n.toNat, by omega⟩
    have hMK := fun W => make_ok seed (N : Int) W (by omega) (by omega)
    rw [Int.toNat_natCast] at hMK
    have HMK := Lib.hid hMK
    have hNX := fun W => next_any seed hs W
    rw [show nextErr seed = 0 by unfold nextErr; rw [if_neg (by omega)], show nextO seed = keyAt seed 1 by unfold nextO; rw [if_neg (by omega)]; rfl] at hNX
    have HNX := Lib.hid hNX
    have hN1 : 1 ≤ N := by omega
    have hN6 : N ≤ 6 := by omega
    clear hMK hNX
    go_enter Try.func15, Try.ntmps15
    go_wp2_with fail
    refine (chainAlive_any w).mono ?_
    rintro e w1 ⟨rfl, hb1⟩
    have X1 := Lib.hid hb1
    clear hb1
    go_wp2_with fail
    refine (HMK.out w1).mono ?_
    rintro e w2 ⟨v2, rfl, hown2, hb2⟩
    have X2 := Lib.hid (X1.out.trans (hb2.mono X1.out.size))
    obtain ⟨g, c, rfl, hg, -, hca⟩ := own_cells hown2 (by omega)
    have hca2 : ∀ j : Nat, j < N → w2.cell? ⟨g, j, none⟩ = some (.string (keyAt seed (j + 1))) := fun j hj => hca j _ (keysL_get seed N j hj)
    have HCA := Lib.hid hca2
    obtain ⟨N', rfl⟩ : ∃ N', N = N' + 1 := ⟨N - 1, by omega⟩
    have c0 := hca2 N' (by omega)
    have hi0 : ((N' + 1 : Nat) : Int) - 1 = (N' : Int) := by omega
    clear hb2 X1 hown2 hca hca2
    have X2' := X2
    go_wp2
    go_loopw [8, 9] (fun st i wr => ∃ j : Nat, j ≤ N' ∧ i = .int .i64 ((j : Int) - 1) ∧ st = .string (keyAt seed (j + 1)) ∧ g < wr.heap.size ∧ (∀ k : Nat, k < N' + 1 → wr.cell? ⟨g, k, none⟩ = some (.string (keyAt seed (k + 1)))) ∧ Below w.heap.size w wr) (fun _ i _ => (intOf i + 1).toNat)
    case atStart => exact ⟨N', by omega, by go_num, rfl, hg, HCA.out, X2.out⟩
    case round =>
      obtain ⟨j, hj, rfl, rfl, hgl, hcl, hbk⟩ := hrel
      clear HCA X2 X2' c0 hi0 hg
      have HC := Lib.hid hcl
      have HB := Lib.hid hbk
      have hsk := hbk.size
      clear hcl hbk
      by_cases hj0 : j = 0
      · subst hj0
        go_wp2_with fail
        refine (HNX.out wr).mono ?_
        rintro e w9 ⟨rfl, hb9⟩
        have X9 := Lib.hid (HB.out.trans (hb9.mono hsk))
        clear hb9
        go_wp2
        go_ret
        exact ⟨rfl, X9.out⟩
      have htk := fun q W => take_any (keyAt seed (q + 2)) (keyAt seed (q + 1)) ⟨#[]⟩ false W
      obtain ⟨q0, rfl⟩ : ∃ q0, j = q0 + 1 := ⟨j - 1, by omega⟩
      have HTK : Hid (∀ W, Calls Try.prog 42 #[.string (keyAt seed (q0 + 2)), .string (keyAt seed (q0 + 1)), .string ⟨#[]⟩, .bool false] W fun e w' => e = .returned (.tuple #[.string (keyAt seed (q0 + 1)), .int .i64 0]) ∧ Below W.heap.size W w') := fun W => by
        have h := take_any (keyAt seed (q0 + 2)) (keyAt seed (q0 + 1)) ⟨#[]⟩ false W
        rwa [show takeO (keyAt seed (q0 + 2)) (keyAt seed (q0 + 1)) ⟨#[]⟩ false = keyAt seed (q0 + 1) by unfold takeO; rw [take_keys seed q0]; rfl, show takeErr (keyAt seed (q0 + 2)) (keyAt seed (q0 + 1)) ⟨#[]⟩ false = 0 by unfold takeErr; rw [take_keys seed q0]; rfl] at h
      clear htk
      rw [show ((q0 + 1 : Nat) : Int) - 1 = (q0 : Int) by omega]
      rcases Nat.eq_zero_or_pos q0 with rfl | hq0
      · go_wp2_with fail
        refine wp_region_typed rfl (by kernel_rfl) (by kernel_rfl) ?_
        refine tw_move (.inl (.int .i64 0)) (stable_is _) (.inl rfl) rfl (wd_none rfl) ?_
        refine tw_one (s := 56) (c := .int .i64 0) (.bool false) (by decide) rfl (wd_none rfl) (fun ρ W h1 h2 => by simp only [execOp, h1]; go_simp) ?_
        refine tw_move (.inl (.bool false)) (stable_is _) (.inl rfl) rfl (wd_none rfl) ?_
        refine tw_skip (wd_no rfl rfl rfl) ?_
        refine tw_skip (wd_no rfl rfl rfl) ?_
        refine tw_skip (wd_no rfl rfl rfl) ?_
        refine tw_skip (wd_no rfl rfl rfl) ?_
        refine tw_skip (wd_no rfl rfl rfl) ?_
        refine tw_skip (wd_no rfl rfl rfl) ?_
        refine tw_skip (wd_no rfl rfl rfl) ?_
        refine tw_skip (wd_no rfl rfl rfl) ?_
        refine tw_skip (wd_no rfl rfl rfl) ?_
        refine tw_skip (wd_no rfl rfl rfl) ?_
        refine tw_two (s := 58) (t := 68) (c := .bool false) (e := undef) (.bool false) (by decide) (by decide) rfl rfl (wd_none rfl) (fun ρ W h1 h2 h3 => by simp only [execOp, h1, h2, h3]; go_simp) ?_
        refine tw_move (.inl (.bool false)) (stable_is _) (.inl rfl) rfl (wd_none rfl) ?_
        refine tw_skip (wd_no rfl rfl rfl) ?_
        refine tw_skip (wd_no rfl rfl rfl) ?_
        refine tw_skip (wd_no rfl rfl rfl) ?_
        refine tw_skip (wd_no rfl rfl rfl) ?_
        refine tw_skip (wd_no rfl rfl rfl) ?_
        refine tw_skip (wd_no rfl rfl rfl) ?_
        refine tw_skip (wd_no rfl rfl rfl) ?_
        refine tw_skip (wd_no rfl rfl rfl) ?_
        refine tw_skip (wd_no rfl rfl rfl) ?_
        refine tw_skip (wd_no rfl rfl rfl) ?_
        refine tw_skip (wd_no rfl rfl rfl) ?_
        refine tw_skip (wd_no rfl rfl rfl) ?_
        refine tw_skip (wd_no rfl rfl rfl) ?_
        refine tw_skip (wd_no rfl rfl rfl) ?_
        refine tw_two (s := 70) (t := 84) (c := .bool false) (e := undef) (.bool false) (by decide) (by decide) rfl rfl (wd_none rfl) (fun ρ W h1 h2 h3 => by simp only [execOp, h1, h2, h3]; go_simp) ?_
        dsimp only [wpT, List.reverse, List.reverseAux, FinT]
        intro W hW _
        simp only [Act.put, List.setIfInBounds_toArray, List.set_cons_zero, List.set_cons_succ]
        have XW := Lib.hid (HB.out.drew.trans (Below.mono hW hsk))
        have HCW := Lib.hid (fun k hk => (hW.cell (p := ⟨g, k, none⟩) hgl).trans (HC.out k hk))
        have hglW : g < W.heap.size := Nat.lt_of_lt_of_le hgl hW.size
        have hci := HCW.out 0 (by omega)
        clear hW
        go_wp2_with fail
        refine (HTK.out W).mono ?_
        rintro e w5 ⟨rfl, hb5⟩
        have X5 := Lib.hid (XW.out.trans (hb5.mono XW.out.size))
        have HC5 := Lib.hid (fun k hk => (hb5.cell (p := ⟨g, k, none⟩) hglW).trans (HCW.out k hk))
        have hci5 := HC5.out 0 (by omega)
        have hgl5 : g < w5.heap.size := Nat.lt_of_lt_of_le hglW hb5.size
        clear hb5 hci
        go_wp2
        exact ⟨⟨0, by omega, by go_num, rfl, hgl5, HC5.out, X5.out⟩, by (simp [intOf]; try omega)⟩
      obtain ⟨q, rfl⟩ : ∃ q, q0 = q + 1 := ⟨q0 - 1, by omega⟩
      have hfi := fun W => fits_any (keyAt seed (q + 3)) (keyAt seed (q + 1)) W
      rw [fits_two] at hfi
      have HFI := Lib.hid hfi
      have CQ := Lib.hid (HC.out q (by omega))
      have CI := Lib.hid (HC.out (q + 1) (by omega))
      have hsub : (((q + 1 : Nat) : Int)) - 1 = (q : Int) := by omega
      have hpos : (0 : Int) < ((q + 1 : Nat) : Int) := by omega
      have hqN : (q : Int) < ((N' + 1 : Nat) : Int) := by omega
      have hiN : ((q + 1 : Nat) : Int) < ((N' + 1 : Nat) : Int) := by omega
      obtain ⟨i1, hi1⟩ : ∃ i1, i1 = q + 1 := ⟨_, rfl⟩
      have CI3 : Hid (wr.cell? ⟨g, i1, none⟩ = some (.string (keyAt seed (q + 2)))) := by rw [hi1]; exact CI
      have hic : ((q + 1 : Nat) : Int) = (i1 : Int) := by rw [hi1]
      rw [hic] at hsub hpos hiN
      rw [hic]
      clear hic
      clear hfi
      have h23 : keyAt seed (q + 1 + 1 + 1) = keyAt seed (q + 3) := rfl
      rw [show keyAt seed (q + 1 + 1 + 1) = keyAt seed (q + 3) from rfl]
      have CI2 : Hid (wr.cell? ⟨g, i1, none⟩ = some (.string (keyAt seed (q + 2)))) := CI3.out
      have HTK2 : Hid (∀ W, Calls Try.prog 42 #[.string (keyAt seed (q + 3)), .string (keyAt seed (q + 2)), .string ⟨#[]⟩, .bool false] W fun e w' => e = .returned (.tuple #[.string (keyAt seed (q + 2)), .int .i64 0]) ∧ Below W.heap.size W w') := HTK.out
      clear HTK CI CI3 h23
      have HQ1 := Box.mk hi1
      clear hi1
      cases hd : ((keyAt seed (q + 1)).toList == (keyAt seed (q + 2)).toList) with
      | true =>
        go_wp2_with fail
        refine wp_region_typed rfl (by kernel_rfl) (by kernel_rfl) ?_
        refine tw_move (.inl (.int .i64 (i1 : Int))) (stable_is _) (.inl rfl) rfl (wd_none rfl) ?_
        refine tw_one (s := 56) (c := .int .i64 (i1 : Int)) (.bool true) (by decide) rfl (wd_none rfl) (fun ρ W h1 h2 => by simp only [execOp, h1]; go_simp; try omega) ?_
        refine tw_move (.inl (.bool true)) (stable_is _) (.inl rfl) rfl (wd_none rfl) ?_
        refine tw_move (.inl (.slice (some ⟨g, 0, none⟩) (N' + 1) c)) (stable_is _) (.inl rfl) rfl (wd_yes rfl rfl rfl) ?_
        refine tw_move (.inl (.int .i64 (i1 : Int))) (stable_is _) (.inl rfl) rfl (wd_yes rfl rfl rfl) ?_
        refine tw_one (s := 60) (c := .int .i64 (i1 : Int)) (.int .i64 (q : Int)) (by decide) rfl (wd_yes rfl rfl rfl) (fun ρ W h1 h2 => by simp only [execOp, h1]; go_simp; rw [IntKind.wrap_i64]; omega) ?_
        refine tw_two (s := 59) (t := 61) (c := .slice (some ⟨g, 0, none⟩) (N' + 1) c) (e := .int .i64 (q : Int)) (.pointer (some ⟨g, q, none⟩)) (by decide) (by decide) rfl rfl (wd_yes rfl rfl rfl) (fun ρ W h1 h2 h3 => by simp only [execOp, h1, h2]; go_simp; all_goals (intros; omega)) ?_
        refine tw_lds (p := ⟨g, q, none⟩) (x := keyAt seed (q + 1)) rfl rfl (fun W hW => (hW.cell (p := ⟨g, q, none⟩) hgl).trans CQ.out) (wd_yes rfl rfl rfl) ?_
        refine tw_move (.inl (.slice (some ⟨g, 0, none⟩) (N' + 1) c)) (stable_is _) (.inl rfl) rfl (wd_yes rfl rfl rfl) ?_
        refine tw_move (.inl (.int .i64 (i1 : Int))) (stable_is _) (.inl rfl) rfl (wd_yes rfl rfl rfl) ?_
        refine tw_two (s := 64) (t := 65) (c := .slice (some ⟨g, 0, none⟩) (N' + 1) c) (e := .int .i64 (i1 : Int)) (.pointer (some ⟨g, i1, none⟩)) (by decide) (by decide) rfl rfl (wd_yes rfl rfl rfl) (fun ρ W h1 h2 h3 => by simp only [execOp, h1, h2]; go_simp; all_goals (intros; omega)) ?_
        refine tw_lds (p := ⟨g, i1, none⟩) (x := keyAt seed (q + 2)) rfl rfl (fun W hW => (hW.cell (p := ⟨g, i1, none⟩) hgl).trans CI2.out) (wd_yes rfl rfl rfl) ?_
        refine tw_two (s := 63) (t := 67) (c := .string (keyAt seed (q + 1))) (e := .string (keyAt seed (q + 2))) (.bool false) (by decide) (by decide) rfl rfl (wd_yes rfl rfl rfl) (fun ρ W h1 h2 h3 => by simp only [execOp, h1, h2]; go_simp) ?_
        refine tw_two (s := 58) (t := 68) (c := .bool true) (e := .bool false) (.bool false) (by decide) (by decide) rfl rfl (wd_none rfl) (fun ρ W h1 h2 h3 => by simp only [execOp, h1, h2, h3]; go_simp) ?_
        refine tw_move (.inl (.bool false)) (stable_is _) (.inl rfl) rfl (wd_none rfl) ?_
        refine tw_skip (wd_no rfl rfl rfl) ?_
        refine tw_skip (wd_no rfl rfl rfl) ?_
        refine tw_skip (wd_no rfl rfl rfl) ?_
        refine tw_skip (wd_no rfl rfl rfl) ?_
        refine tw_skip (wd_no rfl rfl rfl) ?_
        refine tw_skip (wd_no rfl rfl rfl) ?_
        refine tw_skip (wd_no rfl rfl rfl) ?_
        refine tw_skip (wd_no rfl rfl rfl) ?_
        refine tw_skip (wd_no rfl rfl rfl) ?_
        refine tw_skip (wd_no rfl rfl rfl) ?_
        refine tw_skip (wd_no rfl rfl rfl) ?_
        refine tw_skip (wd_no rfl rfl rfl) ?_
        refine tw_skip (wd_no rfl rfl rfl) ?_
        refine tw_skip (wd_no rfl rfl rfl) ?_
        refine tw_two (s := 70) (t := 84) (c := .bool false) (e := undef) (.bool false) (by decide) (by decide) rfl rfl (wd_none rfl) (fun ρ W h1 h2 h3 => by simp only [execOp, h1, h2, h3]; go_simp) ?_
        dsimp only [wpT, List.reverse, List.reverseAux, FinT]
        intro W hW _
        simp only [Act.put, List.setIfInBounds_toArray, List.set_cons_zero, List.set_cons_succ]
        have XW := Lib.hid (HB.out.drew.trans (Below.mono hW hsk))
        have HCW := Lib.hid (fun k hk => (hW.cell (p := ⟨g, k, none⟩) hgl).trans (HC.out k hk))
        have hglW : g < W.heap.size := Nat.lt_of_lt_of_le hgl hW.size
        have hci := HCW.out i1 (by have := HQ1.out; omega)
        clear hW
        have hci' : W.cell? ⟨g, i1, none⟩ = some (.string (keyAt seed (q + 2))) := by rw [hci, HQ1.out]
        clear hci
        go_wp2_with fail
        refine (HTK2.out W).mono ?_
        rintro e w5 ⟨rfl, hb5⟩
        have X5 := Lib.hid (XW.out.trans (hb5.mono XW.out.size))
        have HC5 := Lib.hid (fun k hk => (hb5.cell (p := ⟨g, k, none⟩) hglW).trans (HCW.out k hk))
        have hci5 : w5.cell? ⟨g, i1, none⟩ = some (.string (keyAt seed (q + 2))) := by rw [HC5.out i1 (by have := HQ1.out; omega), HQ1.out]
        have hgl5 : g < w5.heap.size := Nat.lt_of_lt_of_le hglW hb5.size
        clear hb5 hci'
        go_wp2
        exact ⟨⟨i1, by have := HQ1.out; omega, by go_num, by rw [HQ1.out], hgl5, HC5.out, X5.out⟩, by (simp [intOf]; try omega)⟩
      | false =>
        go_wp2_with fail
        refine wp_region_typed rfl (by kernel_rfl) (by kernel_rfl) ?_
        refine tw_move (.inl (.int .i64 (i1 : Int))) (stable_is _) (.inl rfl) rfl (wd_none rfl) ?_
        refine tw_one (s := 56) (c := .int .i64 (i1 : Int)) (.bool true) (by decide) rfl (wd_none rfl) (fun ρ W h1 h2 => by simp only [execOp, h1]; go_simp; try omega) ?_
        refine tw_move (.inl (.bool true)) (stable_is _) (.inl rfl) rfl (wd_none rfl) ?_
        refine tw_move (.inl (.slice (some ⟨g, 0, none⟩) (N' + 1) c)) (stable_is _) (.inl rfl) rfl (wd_yes rfl rfl rfl) ?_
        refine tw_move (.inl (.int .i64 (i1 : Int))) (stable_is _) (.inl rfl) rfl (wd_yes rfl rfl rfl) ?_
        refine tw_one (s := 60) (c := .int .i64 (i1 : Int)) (.int .i64 (q : Int)) (by decide) rfl (wd_yes rfl rfl rfl) (fun ρ W h1 h2 => by simp only [execOp, h1]; go_simp; rw [IntKind.wrap_i64]; omega) ?_
        refine tw_two (s := 59) (t := 61) (c := .slice (some ⟨g, 0, none⟩) (N' + 1) c) (e := .int .i64 (q : Int)) (.pointer (some ⟨g, q, none⟩)) (by decide) (by decide) rfl rfl (wd_yes rfl rfl rfl) (fun ρ W h1 h2 h3 => by simp only [execOp, h1, h2]; go_simp; all_goals (intros; omega)) ?_
        refine tw_lds (p := ⟨g, q, none⟩) (x := keyAt seed (q + 1)) rfl rfl (fun W hW => (hW.cell (p := ⟨g, q, none⟩) hgl).trans CQ.out) (wd_yes rfl rfl rfl) ?_
        refine tw_move (.inl (.slice (some ⟨g, 0, none⟩) (N' + 1) c)) (stable_is _) (.inl rfl) rfl (wd_yes rfl rfl rfl) ?_
        refine tw_move (.inl (.int .i64 (i1 : Int))) (stable_is _) (.inl rfl) rfl (wd_yes rfl rfl rfl) ?_
        refine tw_two (s := 64) (t := 65) (c := .slice (some ⟨g, 0, none⟩) (N' + 1) c) (e := .int .i64 (i1 : Int)) (.pointer (some ⟨g, i1, none⟩)) (by decide) (by decide) rfl rfl (wd_yes rfl rfl rfl) (fun ρ W h1 h2 h3 => by simp only [execOp, h1, h2]; go_simp; all_goals (intros; omega)) ?_
        refine tw_lds (p := ⟨g, i1, none⟩) (x := keyAt seed (q + 2)) rfl rfl (fun W hW => (hW.cell (p := ⟨g, i1, none⟩) hgl).trans CI2.out) (wd_yes rfl rfl rfl) ?_
        refine tw_two (s := 63) (t := 67) (c := .string (keyAt seed (q + 1))) (e := .string (keyAt seed (q + 2))) (.bool true) (by decide) (by decide) rfl rfl (wd_yes rfl rfl rfl) (fun ρ W h1 h2 h3 => by simp only [execOp, h1, h2]; go_simp) ?_
        refine tw_two (s := 58) (t := 68) (c := .bool true) (e := .bool true) (.bool true) (by decide) (by decide) rfl rfl (wd_none rfl) (fun ρ W h1 h2 h3 => by simp only [execOp, h1, h2, h3]; go_simp) ?_
        refine tw_move (.inl (.bool true)) (stable_is _) (.inl rfl) rfl (wd_none rfl) ?_
        refine tw_move (.inl (.string (keyAt seed (q + 3)))) (stable_is _) (.inl rfl) rfl (wd_yes rfl rfl rfl) ?_
        refine tw_move (.inl (.slice (some ⟨g, 0, none⟩) (N' + 1) c)) (stable_is _) (.inl rfl) rfl (wd_yes rfl rfl rfl) ?_
        refine tw_move (.inl (.int .i64 (i1 : Int))) (stable_is _) (.inl rfl) rfl (wd_yes rfl rfl rfl) ?_
        refine tw_one (s := 73) (c := .int .i64 (i1 : Int)) (.int .i64 (q : Int)) (by decide) rfl (wd_yes rfl rfl rfl) (fun ρ W h1 h2 => by simp only [execOp, h1]; go_simp; rw [IntKind.wrap_i64]; omega) ?_
        refine tw_two (s := 72) (t := 74) (c := .slice (some ⟨g, 0, none⟩) (N' + 1) c) (e := .int .i64 (q : Int)) (.pointer (some ⟨g, q, none⟩)) (by decide) (by decide) rfl rfl (wd_yes rfl rfl rfl) (fun ρ W h1 h2 h3 => by simp only [execOp, h1, h2]; go_simp; all_goals (intros; omega)) ?_
        refine tw_lds (p := ⟨g, q, none⟩) (x := keyAt seed (q + 1)) rfl rfl (fun W hW => (hW.cell (p := ⟨g, q, none⟩) hgl).trans CQ.out) (wd_yes rfl rfl rfl) ?_
        refine tw_fnB #[.string (keyAt seed (q + 3)), .string (keyAt seed (q + 1))] (.bool ((keyAt seed (q + 3)).toList == (keyAt seed (q + 2)).toList)) rfl (fun W => by go_simp) rfl (wd_yes rfl rfl rfl) (fun W _ => HFI.out W) ?_
        refine tw_move (.inl (.string (keyAt seed (q + 3)))) (stable_is _) (.inl rfl) rfl (wd_yes rfl rfl rfl) ?_
        refine tw_move (.inl (.slice (some ⟨g, 0, none⟩) (N' + 1) c)) (stable_is _) (.inl rfl) rfl (wd_yes rfl rfl rfl) ?_
        refine tw_move (.inl (.int .i64 (i1 : Int))) (stable_is _) (.inl rfl) rfl (wd_yes rfl rfl rfl) ?_
        refine tw_two (s := 79) (t := 80) (c := .slice (some ⟨g, 0, none⟩) (N' + 1) c) (e := .int .i64 (i1 : Int)) (.pointer (some ⟨g, i1, none⟩)) (by decide) (by decide) rfl rfl (wd_yes rfl rfl rfl) (fun ρ W h1 h2 h3 => by simp only [execOp, h1, h2]; go_simp; all_goals (intros; omega)) ?_
        refine tw_lds (p := ⟨g, i1, none⟩) (x := keyAt seed (q + 2)) rfl rfl (fun W hW => (hW.cell (p := ⟨g, i1, none⟩) hgl).trans CI2.out) (wd_yes rfl rfl rfl) ?_
        refine tw_two (s := 78) (t := 82) (c := .string (keyAt seed (q + 3))) (e := .string (keyAt seed (q + 2))) (.bool ((keyAt seed (q + 3)).toList == (keyAt seed (q + 2)).toList)) (by decide) (by decide) rfl rfl (wd_yes rfl rfl rfl) (fun ρ W h1 h2 h3 => by simp only [execOp, h1, h2]; go_simp) ?_
        refine tw_two (s := 77) (t := 83) (c := .bool ((keyAt seed (q + 3)).toList == (keyAt seed (q + 2)).toList)) (e := .bool ((keyAt seed (q + 3)).toList == (keyAt seed (q + 2)).toList)) (.bool false) (by decide) (by decide) rfl rfl (wd_yes rfl rfl rfl) (fun ρ W h1 h2 h3 => by simp only [execOp, h1, h2]; go_simp) ?_
        refine tw_two (s := 70) (t := 84) (c := .bool true) (e := .bool false) (.bool false) (by decide) (by decide) rfl rfl (wd_none rfl) (fun ρ W h1 h2 h3 => by simp only [execOp, h1, h2, h3]; go_simp) ?_
        dsimp only [wpT, List.reverse, List.reverseAux, FinT]
        intro W hW _
        simp only [Act.put, List.setIfInBounds_toArray, List.set_cons_zero, List.set_cons_succ]
        have XW := Lib.hid (HB.out.drew.trans (Below.mono hW hsk))
        have HCW := Lib.hid (fun k hk => (hW.cell (p := ⟨g, k, none⟩) hgl).trans (HC.out k hk))
        have hglW : g < W.heap.size := Nat.lt_of_lt_of_le hgl hW.size
        have hci := HCW.out i1 (by have := HQ1.out; omega)
        clear hW
        have hci' : W.cell? ⟨g, i1, none⟩ = some (.string (keyAt seed (q + 2))) := by rw [hci, HQ1.out]
        clear hci
        go_wp2_with fail
        refine (HTK2.out W).mono ?_
        rintro e w5 ⟨rfl, hb5⟩
        have X5 := Lib.hid (XW.out.trans (hb5.mono XW.out.size))
        have HC5 := Lib.hid (fun k hk => (hb5.cell (p := ⟨g, k, none⟩) hglW).trans (HCW.out k hk))
        have hci5 : w5.cell? ⟨g, i1, none⟩ = some (.string (keyAt seed (q + 2))) := by rw [HC5.out i1 (by have := HQ1.out; omega), HQ1.out]
        have hgl5 : g < w5.heap.size := Nat.lt_of_lt_of_le hglW hb5.size
        clear hb5 hci'
        go_wp2
        exact ⟨⟨i1, by have := HQ1.out; omega, by go_num, by rw [HQ1.out], hgl5, HC5.out, X5.out⟩, by (simp [intOf]; try omega)⟩
end Go.Proofs.Ytonblhannoinfaa
