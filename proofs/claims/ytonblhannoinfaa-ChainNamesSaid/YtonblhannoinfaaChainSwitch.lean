/- The walk of ChainSwitch. -/
import Derived.Test.YtonblhannoinfaaChainG
namespace Go.Proofs.Ytonblhannoinfaa
open Go.RowKit
set_option linter.unusedSimpArgs false
set_option linter.unusedVariables false
section
variable {ops : Array Oper} {w0 : World} {Fin : List Ty → Prop} {rest : List Oper} {E : Env} {Ts : List Ty} {o : Oper}
/-- a load of a text -/
theorem tw_lds {s : Tmp} {p : Addr} {x : ByteArray} (hop : o.op = .load 9 (.tmp s)) (hE : E s = .inl (.pointer (some p))) (hc : ∀ W, Ext w0 W → W.cell? p = some (.string x)) (hw : Wd ops o E true)
    (hr : wpT Try.prog ops w0 Fin rest (E.put o.dst (.inl (.string x))) (.inl (.string x) :: Ts)) : wpT Try.prog ops w0 Fin (o :: rest) E Ts :=
  tw_pure (.string x) hw (fun a W hW hs => by
    have hv := hs s (looks_of (x := .tmp s) (by rw [hop]; simp [Op.operands]) rfl)
    rw [hE] at hv
    have h1 : a.tmps.getD s undef = .pointer (some p) := hv
    have h2 := hc W hW
    unfold execOp
    simp only [hop, Act.eval, h1]
    go_simp) hr
end
set_option maxHeartbeats 4000000 in
set_option maxRecDepth 10000 in
theorem chainSwitch_walk (one two : ByteArray) (n m : Int) (w : World) (hs : one.size ≤ maxLen) (hk : two.size ≤ maxLen) (hn : -9223372036854775808 ≤ n ∧ n ≤ 9223372036854775807) (hm : -9223372036854775808 ≤ m ∧ m ≤ 9223372036854775807) :
    Calls Try.prog 17 #[.string one, .string two, .int .i64 n, .int .i64 m] w fun e w' => e = .returned (.bool true) ∧ Below w.heap.size w w' := by
  have hcase : (100 : Int) < (one.size : Int) ∨ (¬ (100 : Int) < (one.size : Int) ∧ (100 : Int) < (two.size : Int)) ∨ (¬ (100 : Int) < (one.size : Int) ∧ ¬ (100 : Int) < (two.size : Int) ∧ n < 2) ∨
      (¬ (100 : Int) < (one.size : Int) ∧ ¬ (100 : Int) < (two.size : Int) ∧ ¬ n < 2 ∧ 4 < n) ∨ (¬ (100 : Int) < (one.size : Int) ∧ ¬ (100 : Int) < (two.size : Int) ∧ ¬ n < 2 ∧ ¬ 4 < n ∧ m < 2) ∨
      (¬ (100 : Int) < (one.size : Int) ∧ ¬ (100 : Int) < (two.size : Int) ∧ ¬ n < 2 ∧ ¬ 4 < n ∧ ¬ m < 2 ∧ 4 < m) ∨ (¬ (100 : Int) < (one.size : Int) ∧ ¬ (100 : Int) < (two.size : Int) ∧ ¬ n < 2 ∧ ¬ 4 < n ∧ ¬ m < 2 ∧ ¬ 4 < m) := by omega
  rcases hcase with h1 | ⟨h1, h2⟩ | ⟨h1, h2, h3⟩ | ⟨h1, h2, h3, h4⟩ | ⟨h1, h2, h3, h4, h5⟩ | ⟨h1, h2, h3, h4, h5, h6⟩ | ⟨h1, h2, h3, h4, h5, h6⟩
  · go_enter Try.func17, Try.ntmps17
    go_wp2_with fail
    refine (chainAlive_any w).mono ?_
    rintro e w1 ⟨rfl, hb1⟩
    go_wp2
    go_ret
    exact ⟨rfl, hb1⟩
  · go_enter Try.func17, Try.ntmps17
    go_wp2_with fail
    refine (chainAlive_any w).mono ?_
    rintro e w1 ⟨rfl, hb1⟩
    go_wp2
    go_ret
    exact ⟨rfl, hb1⟩
  · go_enter Try.func17, Try.ntmps17
    go_wp2_with fail
    refine (chainAlive_any w).mono ?_
    rintro e w1 ⟨rfl, hb1⟩
    go_wp2
    go_ret
    exact ⟨rfl, hb1⟩
  · go_enter Try.func17, Try.ntmps17
    go_wp2_with fail
    refine (chainAlive_any w).mono ?_
    rintro e w1 ⟨rfl, hb1⟩
    go_wp2
    go_ret
    exact ⟨rfl, hb1⟩
  · go_enter Try.func17, Try.ntmps17
    go_wp2_with fail
    refine (chainAlive_any w).mono ?_
    rintro e w1 ⟨rfl, hb1⟩
    go_wp2
    go_ret
    exact ⟨rfl, hb1⟩
  · go_enter Try.func17, Try.ntmps17
    go_wp2_with fail
    refine (chainAlive_any w).mono ?_
    rintro e w1 ⟨rfl, hb1⟩
    go_wp2
    go_ret
    exact ⟨rfl, hb1⟩
  · obtain ⟨N, rfl⟩ : ∃ N : Nat, n = (N : Int) := ⟨n.toNat, by omega⟩
    have hMK1 := fun W => make_ok one (N : Int) W (by omega) (by omega)
    have hMK2 := fun W => make_ok two m W (by omega) (by omega)
    rw [Int.toNat_natCast] at hMK1
    have HMK1 := Lib.hid hMK1
    have hN2 : 2 ≤ N := by omega
    have HT1 := Lib.hid (take_keys_new one two 0)
    have HT2 := Lib.hid (take_keys two)
    have hm3 : m = 2 ∨ m = 3 ∨ m = 4 := by omega
    clear hMK1
    rcases hm3 with rfl | rfl | rfl
    · rw [show (2 : Int).toNat = 2 from rfl] at hMK2
      have HMK2 := Lib.hid hMK2
      have hta := fun W => take_any (keyAt one 2) (keyAt one 1) (keyAt two 2) true W
      have htb := fun W => take_any (keyAt two 2) (keyAt two 1) ⟨#[]⟩ false W
      rw [show takeO (keyAt one 2) (keyAt one 1) (keyAt two 2) true = keyAt two 2 by unfold takeO; rw [HT1.out 1]; rfl, show takeErr (keyAt one 2) (keyAt one 1) (keyAt two 2) true = 0 by unfold takeErr; rw [HT1.out 1]; rfl] at hta
      rw [show takeO (keyAt two 2) (keyAt two 1) ⟨#[]⟩ false = keyAt two 1 by unfold takeO; rw [HT2.out 0]; rfl, show takeErr (keyAt two 2) (keyAt two 1) ⟨#[]⟩ false = 0 by unfold takeErr; rw [HT2.out 0]; rfl] at htb
      have HTA := Lib.hid hta
      have HTB := Lib.hid htb
      clear hMK2 hta htb HT1 HT2
      go_enter Try.func17, Try.ntmps17
      go_wp2_with fail
      refine (chainAlive_any w).mono ?_
      rintro e w1 ⟨rfl, hb1⟩
      have X1 := Lib.hid hb1
      clear hb1
      go_wp2_with fail
      refine (HMK1.out w1).mono ?_
      rintro e w2 ⟨v2, rfl, hown2, hb2⟩
      have X2 := Lib.hid (X1.out.trans (hb2.mono X1.out.size))
      obtain ⟨ga, ca, rfl, hga, -, hca⟩ := own_cells hown2 (by omega)
      have CA0 := Lib.hid (hca 0 _ (keysL_get one N 0 (by omega)))
      have CA1 := Lib.hid (hca 1 _ (keysL_get one N 1 (by omega)))
      clear hb2 X1 hown2 hca
      go_wp2_with fail
      refine (HMK2.out w2).mono ?_
      rintro e w3 ⟨v3, rfl, hown3, hb3⟩
      have X3 := Lib.hid (X2.out.trans (hb3.mono X2.out.size))
      obtain ⟨gb, cb, rfl, hgb, -, hcb⟩ := own_cells hown3 (by omega)
      have A0 : Hid (w3.cell? ⟨ga, 0, none⟩ = some (.string (keyAt one 1))) := (hb3.cell (p := ⟨ga, 0, none⟩) hga).trans CA0.out
      have A1 : Hid (w3.cell? ⟨ga, 1, none⟩ = some (.string (keyAt one 2))) := (hb3.cell (p := ⟨ga, 1, none⟩) hga).trans CA1.out
      have B1 : Hid (w3.cell? ⟨gb, 1, none⟩ = some (.string (keyAt two 2))) := hcb 1 _ (keysL_get two 2 1 (by omega))
      have B0 : Hid (w3.cell? ⟨gb, 0, none⟩ = some (.string (keyAt two 1))) := hcb 0 _ (keysL_get two 2 0 (by omega))
      have hga3 : ga < w3.heap.size := Nat.lt_of_lt_of_le hga hb3.size
      clear hb3 X2 hown3 hcb CA0 CA1 hga
      generalize keyAt one 1 = P1 at *
      generalize keyAt one 2 = P2 at *
      generalize keyAt two 2 = Q2 at *
      generalize keyAt two 1 = Q1 at *
      go_wp2_with fail
      refine wp_region_typed rfl (by kernel_rfl) (by kernel_rfl) ?_
      refine tw_move (.inl (.slice (some ⟨ga, 0, none⟩) N ca)) (stable_is _) (.inl rfl) rfl (wd_none rfl) ?_
      refine tw_one (s := 79) (c := .slice (some ⟨ga, 0, none⟩) N ca) (.pointer (some ⟨ga, 1, none⟩)) (by decide) rfl (wd_none rfl) (fun ρ W h1 h2 => by have hx : (1 : Int) < (N : Int) := (by omega); simp only [execOp, h1]; go_simp) ?_
      refine tw_lds (p := ⟨ga, 1, none⟩) (x := P2) rfl rfl (fun W hW => (hW.cell (p := ⟨ga, 1, none⟩) hga3).trans A1.out) (wd_none rfl) ?_
      refine tw_move (.inl (.slice (some ⟨ga, 0, none⟩) N ca)) (stable_is _) (.inl rfl) rfl (wd_none rfl) ?_
      refine tw_one (s := 82) (c := .slice (some ⟨ga, 0, none⟩) N ca) (.pointer (some ⟨ga, 0, none⟩)) (by decide) rfl (wd_none rfl) (fun ρ W h1 h2 => by have hx : (0 : Int) < (N : Int) := (by omega); simp only [execOp, h1]; go_simp; intro h; omega) ?_
      refine tw_lds (p := ⟨ga, 0, none⟩) (x := P1) rfl rfl (fun W hW => (hW.cell (p := ⟨ga, 0, none⟩) hga3).trans A0.out) (wd_none rfl) ?_
      refine tw_move (.inl (.slice (some ⟨gb, 0, none⟩) 2 cb)) (stable_is _) (.inl rfl) rfl (wd_none rfl) ?_
      refine tw_move (.inl (.int .i64 2)) (stable_is _) (.inl rfl) rfl (wd_none rfl) ?_
      refine tw_one (s := 86) (c := .int .i64 2) (.int .i64 1) (by decide) rfl (wd_none rfl) (fun ρ W h1 h2 => by simp only [execOp, h1]; go_simp; decide) ?_
      refine tw_two (s := 85) (t := 87) (c := .slice (some ⟨gb, 0, none⟩) 2 cb) (e := .int .i64 1) (.pointer (some ⟨gb, 1, none⟩)) (by decide) (by decide) rfl rfl (wd_none rfl) (fun ρ W h1 h2 h3 => by simp only [execOp, h1, h2]; go_simp) ?_
      refine tw_lds (p := ⟨gb, 1, none⟩) (x := Q2) rfl rfl (fun W hW => (hW.cell (p := ⟨gb, 1, none⟩) hgb).trans B1.out) (wd_none rfl) ?_
      refine tw_fnB #[.string P2, .string P1, .string Q2, .bool true] (.tuple #[.string Q2, .int .i64 0]) rfl (fun W => by go_simp) rfl (wd_none rfl) (fun W _ => HTA.out W) ?_
      refine tw_move (.inl (.tuple #[.string Q2, .int .i64 0])) (stable_is _) (.inl rfl) rfl (wd_none rfl) ?_
      refine tw_one (s := 78) (c := .tuple #[.string Q2, .int .i64 0]) (.string Q2) (by decide) rfl (wd_none rfl) (fun ρ W h1 h2 => by simp only [execOp, h1]; go_simp) ?_
      refine tw_one (s := 78) (c := .tuple #[.string Q2, .int .i64 0]) (.int .i64 0) (by decide) rfl (wd_none rfl) (fun ρ W h1 h2 => by simp only [execOp, h1]; go_simp) ?_
      refine tw_move (.inl (.string Q2)) (stable_is _) (.inr rfl) rfl (wd_none rfl) ?_
      refine tw_move (.inl (.int .i64 0)) (stable_is _) (.inr rfl) rfl (wd_none rfl) ?_
      dsimp only [wpT, List.reverse, List.reverseAux, FinT]
      intro W hW _
      simp only [Act.put, List.setIfInBounds_toArray, List.set_cons_zero, List.set_cons_succ]
      have c1 := (hW.cell (p := ⟨gb, 1, none⟩) hgb).trans B1.out
      have c0 := (hW.cell (p := ⟨gb, 0, none⟩) hgb).trans B0.out
      have hgbW : gb < W.heap.size := Nat.lt_of_lt_of_le hgb hW.size
      have X4 := Lib.hid (X3.out.drew.trans (Below.mono hW X3.out.size))
      clear hW A0 A1 B0 B1 X3
      go_wp2_with fail
      refine (HTB.out W).mono ?_
      rintro e w5 ⟨rfl, hb5⟩
      have d0 : w5.cell? ⟨gb, 0, none⟩ = some (.string Q1) := (hb5.cell (p := ⟨gb, 0, none⟩) hgbW).trans c0
      have X5 := Lib.hid (X4.out.trans (hb5.mono X4.out.size))
      clear hb5 X4 c0 c1
      go_wp2
      go_ret
      exact ⟨rfl, X5.out⟩
    · rw [show (3 : Int).toNat = 3 from rfl] at hMK2
      have HMK2 := Lib.hid hMK2
      have hta := fun W => take_any (keyAt one 2) (keyAt one 1) (keyAt two 3) true W
      have htb := fun W => take_any (keyAt two 3) (keyAt two 2) ⟨#[]⟩ false W
      rw [show takeO (keyAt one 2) (keyAt one 1) (keyAt two 3) true = keyAt two 3 by unfold takeO; rw [HT1.out 2]; rfl, show takeErr (keyAt one 2) (keyAt one 1) (keyAt two 3) true = 0 by unfold takeErr; rw [HT1.out 2]; rfl] at hta
      rw [show takeO (keyAt two 3) (keyAt two 2) ⟨#[]⟩ false = keyAt two 2 by unfold takeO; rw [HT2.out 1]; rfl, show takeErr (keyAt two 3) (keyAt two 2) ⟨#[]⟩ false = 0 by unfold takeErr; rw [HT2.out 1]; rfl] at htb
      have HTA := Lib.hid hta
      have HTB := Lib.hid htb
      clear hMK2 hta htb HT1 HT2
      go_enter Try.func17, Try.ntmps17
      go_wp2_with fail
      refine (chainAlive_any w).mono ?_
      rintro e w1 ⟨rfl, hb1⟩
      have X1 := Lib.hid hb1
      clear hb1
      go_wp2_with fail
      refine (HMK1.out w1).mono ?_
      rintro e w2 ⟨v2, rfl, hown2, hb2⟩
      have X2 := Lib.hid (X1.out.trans (hb2.mono X1.out.size))
      obtain ⟨ga, ca, rfl, hga, -, hca⟩ := own_cells hown2 (by omega)
      have CA0 := Lib.hid (hca 0 _ (keysL_get one N 0 (by omega)))
      have CA1 := Lib.hid (hca 1 _ (keysL_get one N 1 (by omega)))
      clear hb2 X1 hown2 hca
      go_wp2_with fail
      refine (HMK2.out w2).mono ?_
      rintro e w3 ⟨v3, rfl, hown3, hb3⟩
      have X3 := Lib.hid (X2.out.trans (hb3.mono X2.out.size))
      obtain ⟨gb, cb, rfl, hgb, -, hcb⟩ := own_cells hown3 (by omega)
      have A0 : Hid (w3.cell? ⟨ga, 0, none⟩ = some (.string (keyAt one 1))) := (hb3.cell (p := ⟨ga, 0, none⟩) hga).trans CA0.out
      have A1 : Hid (w3.cell? ⟨ga, 1, none⟩ = some (.string (keyAt one 2))) := (hb3.cell (p := ⟨ga, 1, none⟩) hga).trans CA1.out
      have B1 : Hid (w3.cell? ⟨gb, 2, none⟩ = some (.string (keyAt two 3))) := hcb 2 _ (keysL_get two 3 2 (by omega))
      have B0 : Hid (w3.cell? ⟨gb, 1, none⟩ = some (.string (keyAt two 2))) := hcb 1 _ (keysL_get two 3 1 (by omega))
      have hga3 : ga < w3.heap.size := Nat.lt_of_lt_of_le hga hb3.size
      clear hb3 X2 hown3 hcb CA0 CA1 hga
      generalize keyAt one 1 = P1 at *
      generalize keyAt one 2 = P2 at *
      generalize keyAt two 3 = Q2 at *
      generalize keyAt two 2 = Q1 at *
      go_wp2_with fail
      refine wp_region_typed rfl (by kernel_rfl) (by kernel_rfl) ?_
      refine tw_move (.inl (.slice (some ⟨ga, 0, none⟩) N ca)) (stable_is _) (.inl rfl) rfl (wd_none rfl) ?_
      refine tw_one (s := 79) (c := .slice (some ⟨ga, 0, none⟩) N ca) (.pointer (some ⟨ga, 1, none⟩)) (by decide) rfl (wd_none rfl) (fun ρ W h1 h2 => by have hx : (1 : Int) < (N : Int) := (by omega); simp only [execOp, h1]; go_simp) ?_
      refine tw_lds (p := ⟨ga, 1, none⟩) (x := P2) rfl rfl (fun W hW => (hW.cell (p := ⟨ga, 1, none⟩) hga3).trans A1.out) (wd_none rfl) ?_
      refine tw_move (.inl (.slice (some ⟨ga, 0, none⟩) N ca)) (stable_is _) (.inl rfl) rfl (wd_none rfl) ?_
      refine tw_one (s := 82) (c := .slice (some ⟨ga, 0, none⟩) N ca) (.pointer (some ⟨ga, 0, none⟩)) (by decide) rfl (wd_none rfl) (fun ρ W h1 h2 => by have hx : (0 : Int) < (N : Int) := (by omega); simp only [execOp, h1]; go_simp; intro h; omega) ?_
      refine tw_lds (p := ⟨ga, 0, none⟩) (x := P1) rfl rfl (fun W hW => (hW.cell (p := ⟨ga, 0, none⟩) hga3).trans A0.out) (wd_none rfl) ?_
      refine tw_move (.inl (.slice (some ⟨gb, 0, none⟩) 3 cb)) (stable_is _) (.inl rfl) rfl (wd_none rfl) ?_
      refine tw_move (.inl (.int .i64 3)) (stable_is _) (.inl rfl) rfl (wd_none rfl) ?_
      refine tw_one (s := 86) (c := .int .i64 3) (.int .i64 2) (by decide) rfl (wd_none rfl) (fun ρ W h1 h2 => by simp only [execOp, h1]; go_simp; decide) ?_
      refine tw_two (s := 85) (t := 87) (c := .slice (some ⟨gb, 0, none⟩) 3 cb) (e := .int .i64 2) (.pointer (some ⟨gb, 2, none⟩)) (by decide) (by decide) rfl rfl (wd_none rfl) (fun ρ W h1 h2 h3 => by simp only [execOp, h1, h2]; go_simp) ?_
      refine tw_lds (p := ⟨gb, 2, none⟩) (x := Q2) rfl rfl (fun W hW => (hW.cell (p := ⟨gb, 2, none⟩) hgb).trans B1.out) (wd_none rfl) ?_
      refine tw_fnB #[.string P2, .string P1, .string Q2, .bool true] (.tuple #[.string Q2, .int .i64 0]) rfl (fun W => by go_simp) rfl (wd_none rfl) (fun W _ => HTA.out W) ?_
      refine tw_move (.inl (.tuple #[.string Q2, .int .i64 0])) (stable_is _) (.inl rfl) rfl (wd_none rfl) ?_
      refine tw_one (s := 78) (c := .tuple #[.string Q2, .int .i64 0]) (.string Q2) (by decide) rfl (wd_none rfl) (fun ρ W h1 h2 => by simp only [execOp, h1]; go_simp) ?_
      refine tw_one (s := 78) (c := .tuple #[.string Q2, .int .i64 0]) (.int .i64 0) (by decide) rfl (wd_none rfl) (fun ρ W h1 h2 => by simp only [execOp, h1]; go_simp) ?_
      refine tw_move (.inl (.string Q2)) (stable_is _) (.inr rfl) rfl (wd_none rfl) ?_
      refine tw_move (.inl (.int .i64 0)) (stable_is _) (.inr rfl) rfl (wd_none rfl) ?_
      dsimp only [wpT, List.reverse, List.reverseAux, FinT]
      intro W hW _
      simp only [Act.put, List.setIfInBounds_toArray, List.set_cons_zero, List.set_cons_succ]
      have c1 := (hW.cell (p := ⟨gb, 2, none⟩) hgb).trans B1.out
      have c0 := (hW.cell (p := ⟨gb, 1, none⟩) hgb).trans B0.out
      have hgbW : gb < W.heap.size := Nat.lt_of_lt_of_le hgb hW.size
      have X4 := Lib.hid (X3.out.drew.trans (Below.mono hW X3.out.size))
      clear hW A0 A1 B0 B1 X3
      go_wp2_with fail
      refine (HTB.out W).mono ?_
      rintro e w5 ⟨rfl, hb5⟩
      have d0 : w5.cell? ⟨gb, 1, none⟩ = some (.string Q1) := (hb5.cell (p := ⟨gb, 1, none⟩) hgbW).trans c0
      have X5 := Lib.hid (X4.out.trans (hb5.mono X4.out.size))
      clear hb5 X4 c0 c1
      go_wp2
      go_ret
      exact ⟨rfl, X5.out⟩
    · rw [show (4 : Int).toNat = 4 from rfl] at hMK2
      have HMK2 := Lib.hid hMK2
      have hta := fun W => take_any (keyAt one 2) (keyAt one 1) (keyAt two 4) true W
      have htb := fun W => take_any (keyAt two 4) (keyAt two 3) ⟨#[]⟩ false W
      rw [show takeO (keyAt one 2) (keyAt one 1) (keyAt two 4) true = keyAt two 4 by unfold takeO; rw [HT1.out 3]; rfl, show takeErr (keyAt one 2) (keyAt one 1) (keyAt two 4) true = 0 by unfold takeErr; rw [HT1.out 3]; rfl] at hta
      rw [show takeO (keyAt two 4) (keyAt two 3) ⟨#[]⟩ false = keyAt two 3 by unfold takeO; rw [HT2.out 2]; rfl, show takeErr (keyAt two 4) (keyAt two 3) ⟨#[]⟩ false = 0 by unfold takeErr; rw [HT2.out 2]; rfl] at htb
      have HTA := Lib.hid hta
      have HTB := Lib.hid htb
      clear hMK2 hta htb HT1 HT2
      go_enter Try.func17, Try.ntmps17
      go_wp2_with fail
      refine (chainAlive_any w).mono ?_
      rintro e w1 ⟨rfl, hb1⟩
      have X1 := Lib.hid hb1
      clear hb1
      go_wp2_with fail
      refine (HMK1.out w1).mono ?_
      rintro e w2 ⟨v2, rfl, hown2, hb2⟩
      have X2 := Lib.hid (X1.out.trans (hb2.mono X1.out.size))
      obtain ⟨ga, ca, rfl, hga, -, hca⟩ := own_cells hown2 (by omega)
      have CA0 := Lib.hid (hca 0 _ (keysL_get one N 0 (by omega)))
      have CA1 := Lib.hid (hca 1 _ (keysL_get one N 1 (by omega)))
      clear hb2 X1 hown2 hca
      go_wp2_with fail
      refine (HMK2.out w2).mono ?_
      rintro e w3 ⟨v3, rfl, hown3, hb3⟩
      have X3 := Lib.hid (X2.out.trans (hb3.mono X2.out.size))
      obtain ⟨gb, cb, rfl, hgb, -, hcb⟩ := own_cells hown3 (by omega)
      have A0 : Hid (w3.cell? ⟨ga, 0, none⟩ = some (.string (keyAt one 1))) := (hb3.cell (p := ⟨ga, 0, none⟩) hga).trans CA0.out
      have A1 : Hid (w3.cell? ⟨ga, 1, none⟩ = some (.string (keyAt one 2))) := (hb3.cell (p := ⟨ga, 1, none⟩) hga).trans CA1.out
      have B1 : Hid (w3.cell? ⟨gb, 3, none⟩ = some (.string (keyAt two 4))) := hcb 3 _ (keysL_get two 4 3 (by omega))
      have B0 : Hid (w3.cell? ⟨gb, 2, none⟩ = some (.string (keyAt two 3))) := hcb 2 _ (keysL_get two 4 2 (by omega))
      have hga3 : ga < w3.heap.size := Nat.lt_of_lt_of_le hga hb3.size
      clear hb3 X2 hown3 hcb CA0 CA1 hga
      generalize keyAt one 1 = P1 at *
      generalize keyAt one 2 = P2 at *
      generalize keyAt two 4 = Q2 at *
      generalize keyAt two 3 = Q1 at *
      go_wp2_with fail
      refine wp_region_typed rfl (by kernel_rfl) (by kernel_rfl) ?_
      refine tw_move (.inl (.slice (some ⟨ga, 0, none⟩) N ca)) (stable_is _) (.inl rfl) rfl (wd_none rfl) ?_
      refine tw_one (s := 79) (c := .slice (some ⟨ga, 0, none⟩) N ca) (.pointer (some ⟨ga, 1, none⟩)) (by decide) rfl (wd_none rfl) (fun ρ W h1 h2 => by have hx : (1 : Int) < (N : Int) := (by omega); simp only [execOp, h1]; go_simp) ?_
      refine tw_lds (p := ⟨ga, 1, none⟩) (x := P2) rfl rfl (fun W hW => (hW.cell (p := ⟨ga, 1, none⟩) hga3).trans A1.out) (wd_none rfl) ?_
      refine tw_move (.inl (.slice (some ⟨ga, 0, none⟩) N ca)) (stable_is _) (.inl rfl) rfl (wd_none rfl) ?_
      refine tw_one (s := 82) (c := .slice (some ⟨ga, 0, none⟩) N ca) (.pointer (some ⟨ga, 0, none⟩)) (by decide) rfl (wd_none rfl) (fun ρ W h1 h2 => by have hx : (0 : Int) < (N : Int) := (by omega); simp only [execOp, h1]; go_simp; intro h; omega) ?_
      refine tw_lds (p := ⟨ga, 0, none⟩) (x := P1) rfl rfl (fun W hW => (hW.cell (p := ⟨ga, 0, none⟩) hga3).trans A0.out) (wd_none rfl) ?_
      refine tw_move (.inl (.slice (some ⟨gb, 0, none⟩) 4 cb)) (stable_is _) (.inl rfl) rfl (wd_none rfl) ?_
      refine tw_move (.inl (.int .i64 4)) (stable_is _) (.inl rfl) rfl (wd_none rfl) ?_
      refine tw_one (s := 86) (c := .int .i64 4) (.int .i64 3) (by decide) rfl (wd_none rfl) (fun ρ W h1 h2 => by simp only [execOp, h1]; go_simp; decide) ?_
      refine tw_two (s := 85) (t := 87) (c := .slice (some ⟨gb, 0, none⟩) 4 cb) (e := .int .i64 3) (.pointer (some ⟨gb, 3, none⟩)) (by decide) (by decide) rfl rfl (wd_none rfl) (fun ρ W h1 h2 h3 => by simp only [execOp, h1, h2]; go_simp) ?_
      refine tw_lds (p := ⟨gb, 3, none⟩) (x := Q2) rfl rfl (fun W hW => (hW.cell (p := ⟨gb, 3, none⟩) hgb).trans B1.out) (wd_none rfl) ?_
      refine tw_fnB #[.string P2, .string P1, .string Q2, .bool true] (.tuple #[.string Q2, .int .i64 0]) rfl (fun W => by go_simp) rfl (wd_none rfl) (fun W _ => HTA.out W) ?_
      refine tw_move (.inl (.tuple #[.string Q2, .int .i64 0])) (stable_is _) (.inl rfl) rfl (wd_none rfl) ?_
      refine tw_one (s := 78) (c := .tuple #[.string Q2, .int .i64 0]) (.string Q2) (by decide) rfl (wd_none rfl) (fun ρ W h1 h2 => by simp only [execOp, h1]; go_simp) ?_
      refine tw_one (s := 78) (c := .tuple #[.string Q2, .int .i64 0]) (.int .i64 0) (by decide) rfl (wd_none rfl) (fun ρ W h1 h2 => by simp only [execOp, h1]; go_simp) ?_
      refine tw_move (.inl (.string Q2)) (stable_is _) (.inr rfl) rfl (wd_none rfl) ?_
      refine tw_move (.inl (.int .i64 0)) (stable_is _) (.inr rfl) rfl (wd_none rfl) ?_
      dsimp only [wpT, List.reverse, List.reverseAux, FinT]
      intro W hW _
      simp only [Act.put, List.setIfInBounds_toArray, List.set_cons_zero, List.set_cons_succ]
      have c1 := (hW.cell (p := ⟨gb, 3, none⟩) hgb).trans B1.out
      have c0 := (hW.cell (p := ⟨gb, 2, none⟩) hgb).trans B0.out
      have hgbW : gb < W.heap.size := Nat.lt_of_lt_of_le hgb hW.size
      have X4 := Lib.hid (X3.out.drew.trans (Below.mono hW X3.out.size))
      clear hW A0 A1 B0 B1 X3
      go_wp2_with fail
      refine (HTB.out W).mono ?_
      rintro e w5 ⟨rfl, hb5⟩
      have d0 : w5.cell? ⟨gb, 2, none⟩ = some (.string Q1) := (hb5.cell (p := ⟨gb, 2, none⟩) hgbW).trans c0
      have X5 := Lib.hid (X4.out.trans (hb5.mono X4.out.size))
      clear hb5 X4 c0 c1
      go_wp2
      go_ret
      exact ⟨rfl, X5.out⟩
end Go.Proofs.Ytonblhannoinfaa
