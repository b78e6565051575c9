/- Layer 4 (chain): what is stored then, the document's. -/
import Derived.Test.YtonblhannoinfaaChainC
namespace Go.Proofs.Ytonblhannoinfaa
open Go.RowKit
set_option maxHeartbeats 1000000 in
set_option maxRecDepth 10000 in
theorem reftake_any (st key fresh : ByteArray) (has : Bool) (hs : st.size ≤ maxLen) (hk : key.size ≤ maxLen) (hf : fresh.size ≤ maxLen) (w : World) :
    Calls Try.prog 46 #[.string st, .string key, .string fresh, .bool has] w fun e w' => e = .returned (.tuple #[.string (takeO st key fresh has), .int .i64 (takeErr st key fresh has)]) ∧ Below w.heap.size w w' := by
  have H1 := Lib.hid (reffits_any st key hs hk)
  have H2 := Lib.hid (refis_any fresh hf)
  have hT : takeI st key fresh has = (fitsI st key && (!has || isI fresh 40)) := by
    unfold takeI nowI
    cases has with
    | true => simp
    | false =>
      have : fitsI st key = true → isI key 40 = true := fun h => by unfold fitsI at h; simp at h; exact h.2.1
      cases h : fitsI st key with
      | false => rfl
      | true => simp [this h]
  have hO : takeO st key fresh has = if (fitsI st key && (!has || isI fresh 40)) then nowI key fresh has else ⟨#[]⟩ := by unfold takeO; rw [hT]
  have hE : takeErr st key fresh has = if (fitsI st key && (!has || isI fresh 40)) then 0 else 40 := by unfold takeErr; rw [hT]
  rw [hO, hE]
  clear hT hO hE hs hk hf
  generalize fitsI st key = b1 at *
  generalize isI fresh 40 = b2 at *
  cases b1 with
  | false =>
    simp only [Bool.false_and, Bool.false_eq_true, if_false]
    go_enter Try.func46, Try.ntmps46
    go_wp2_with fail
    refine (H1.out _).mono ?_
    rintro e w1 ⟨rfl, hb1⟩
    go_wp2
    exact bodyPost_ret (v := .tuple #[.string ⟨#[]⟩, .int .i64 40]) (by simp [results, Try.results46, go_sem]) rfl ⟨rfl, hb1⟩
  | true =>
    cases has with
    | false =>
      simp only [Bool.true_and, Bool.not_false, Bool.true_or, if_true, nowI, Bool.false_eq_true, if_false]
      go_enter Try.func46, Try.ntmps46
      go_wp2_with fail
      refine (H1.out _).mono ?_
      rintro e w1 ⟨rfl, hb1⟩
      go_wp2
      exact bodyPost_ret (v := .tuple #[.string key, .int .i64 0]) (by simp [results, Try.results46, go_sem]) rfl ⟨rfl, hb1⟩
    | true =>
      cases b2 with
      | false =>
        simp only [Bool.true_and, Bool.not_true, Bool.false_or, Bool.false_eq_true, if_false]
        go_enter Try.func46, Try.ntmps46
        go_wp2_with fail
        refine (H1.out _).mono ?_
        rintro e w1 ⟨rfl, hb1⟩
        go_wp2_with fail
        refine (H2.out _).mono ?_
        rintro e w2 ⟨rfl, rfl⟩
        go_wp2
        exact bodyPost_ret (v := .tuple #[.string ⟨#[]⟩, .int .i64 40]) (by simp [results, Try.results46, go_sem]) rfl ⟨rfl, hb1⟩
      | true =>
        simp only [Bool.true_and, Bool.not_true, Bool.false_or, if_true, nowI]
        go_enter Try.func46, Try.ntmps46
        go_wp2_with fail
        refine (H1.out _).mono ?_
        rintro e w1 ⟨rfl, hb1⟩
        go_wp2_with fail
        refine (H2.out _).mono ?_
        rintro e w2 ⟨rfl, rfl⟩
        go_wp2
        exact bodyPost_ret (v := .tuple #[.string fresh, .int .i64 0]) (by simp [results, Try.results46, go_sem]) rfl ⟨rfl, hb1⟩
end Go.Proofs.Ytonblhannoinfaa
