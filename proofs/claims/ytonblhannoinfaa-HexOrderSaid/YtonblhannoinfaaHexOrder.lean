/- The walk of HexOrder. -/
import Derived.Test.YtonblhannoinfaaHexAlive
import Derived.Laws.Concat
namespace Go.Proofs.Ytonblhannoinfaa
open Go.RowKit
theorem B8.append {a b : List Int} (ha : B8 a) (hb : B8 b) : B8 (a ++ b) := fun x hx => (List.mem_append.1 hx).elim (ha x) (hb x)
set_option maxHeartbeats 2000000 in
set_option maxRecDepth 10000 in
theorem hexOrder_walk (A : Option Addr) (n c : Nat) (a : List Int) (A' : Option Addr) (m c' : Nat) (b : List Int) (w : World) (hr : Rd w w.heap.size 1 A n (ints .u8 a)) (ha : ∀ x ∈ a, 0 ≤ x ∧ x < 256)
    (hr' : Rd w w.heap.size 1 A' m (ints .u8 b)) (hb : ∀ x ∈ b, 0 ≤ x ∧ x < 256) :
    Calls Try.prog 7 #[.slice A n c, .slice A' m c'] w fun e w' => e = .returned (.bool true) ∧ Below w.heap.size w w' := by
  by_cases h1 : 2000 < n
  · go_enter Try.func7, Try.ntmps7
    go_wp2_with fail
    refine (hexAlive_any w).mono ?_
    rintro e w1 ⟨rfl, hb1⟩
    go_wp2
    go_ret
    exact ⟨rfl, hb1⟩
  · by_cases h2 : 2000 < m
    · go_enter Try.func7, Try.ntmps7
      go_wp2_with fail
      refine (hexAlive_any w).mono ?_
      rintro e w1 ⟨rfl, hb1⟩
      go_wp2
      go_ret
      exact ⟨rfl, hb1⟩
    · have hla : a.length = n := by have := hr.1; simpa [ints] using this
      have hlb : b.length = m := by have := hr'.1; simpa [ints] using this
      have HPA := Lib.hid (fun W B (hB : B ≤ W.heap.size) (h : Rd W B 1 A n (ints .u8 a)) => put_any A n c B a W (by omega) hB ha h)
      have HPB := Lib.hid (fun W B (hB : B ≤ W.heap.size) (h : Rd W B 1 A' m (ints .u8 b)) => put_any A' m c' B b W (by omega) hB hb h)
      have hsum : strOfNums (putL (a ++ b)) = strOfNums (putL a) ++ strOfNums (putL b) := by rw [putL_append, str_append]
      have HPC := Lib.hid (fun (A3 : Option Addr) (c3 : Nat) W B (hB : B ≤ W.heap.size) (h : Rd W B 1 A3 (n + m) (ints .u8 (a ++ b))) => put_lit A3 (n + m) c3 B (a ++ b) _ W (by omega) hB (B8.append ha hb) h hsum)
      have hless : Op.bytesLess (strOfNums (putL a)).toList (strOfNums (putL b)).toList = Op.bytesLess (strOfNums a).toList (strOfNums b).toList := by
        rw [less_str (putL_b8 ha) (putL_b8 hb), less_str ha hb, lessI_put ha hb]
      have hsx : (strOfNums (putL a)).size ≤ 4000 := by rw [strOfNums_size, putL_length]; omega
      have hsy : (strOfNums (putL b)).size ≤ 4000 := by rw [strOfNums_size, putL_length]; omega
      have HLESS := Lib.hid hless
      clear hless hsum hla hlb ha hb
      go_enter Try.func7, Try.ntmps7
      go_wp2_with fail
      refine (hexAlive_any w).mono ?_
      rintro e w1 ⟨rfl, hb1⟩
      have hr1 := hr.below hb1 (Nat.le_refl _)
      have hq1 := hr'.below hb1 (Nat.le_refl _)
      have HB1 := Lib.hid hb1
      have hs1 := hb1.size
      clear hr hr' hb1
      go_wp2_with fail
      refine (HPA.out _ w.heap.size hs1 hr1).mono ?_
      rintro e w2 ⟨rfl, hb2⟩
      have hr2 := hr1.below hb2 hs1
      have hq2 := hq1.below hb2 hs1
      have HB2 := Lib.hid (HB1.out.trans (hb2.mono hs1))
      have hs2 := HB2.out.size
      clear hr1 hq1 hb2
      go_wp2_with fail
      refine (HPB.out _ w.heap.size hs2 hq2).mono ?_
      rintro e w3 ⟨rfl, hb3⟩
      have hr3 := hr2.below hb3 hs2
      have hq3 := hq2.below hb3 hs2
      have HB3 := Lib.hid (HB2.out.trans (hb3.mono hs2))
      have hs3 := HB3.out.size
      clear hr2 hq2 hb3
      have h0 : (w3.alloc (.cells #[] 5)).ownsRow w3.heap.size 5 1 (.slice (some ⟨w3.heap.size, 0, none⟩) 0 0) 0 (ints .u8 []) := World.ownsRow_lit w3 #[] 0 (Nat.le_refl _) (by unfold maxLen; omega) rfl
      have hcap : w3.heap.size ≤ (w3.alloc (.cells #[] 5)).heap.size := by simp
      have HAL := Lib.hid ((Below.refl w3.heap.size w3).alloc (Nat.le_refl _) (.cells #[] 5))
      go_wp2_with (at_builtin; refine app_u8s rfl _ _ rfl w3.heap.size _ _ _ rfl h0 w.heap.size _ _ _ a rfl (hr3.alloc hs3 _) (by omega) hcap ?_)
      intro v w4 hown hg1 _
      have hb4 : Below w3.heap.size w3 w4 := HAL.out.grown hg1 (by simp) (by intro k hk; simp [Value.ownBlock] at hk; omega)
      have hr4 := hr3.below hb4 hs3
      have hq4 := hq3.below hb4 hs3
      have HB4 := Lib.hid (HB3.out.trans (hb4.mono hs3))
      have hs4 := HB4.out.size
      have hs34 := hb4.size
      have HB34 := Lib.hid hb4
      clear hr3 hq3 hb4 hg1 h0 hcap HAL
      go_wp2_with (at_builtin; refine app_u8s rfl _ _ rfl w3.heap.size _ _ _ rfl hown w.heap.size _ _ _ b rfl hq4 (by omega) hs34 ?_)
      intro v2 w5 hown2 hg2 _
      have hb5 : Below w3.heap.size w4 w5 := (Below.refl _ w4).grown hg2 hs34 (fun k hk => (hown.lt k hk).1)
      have hr5 := hr4.below hb5 hs3
      have hq5 := hq4.below hb5 hs3
      have HB5 := Lib.hid (HB4.out.trans (hb5.mono hs3))
      have hs5 := HB5.out.size
      obtain ⟨A3, c3, rfl⟩ := own_form hown2
      have hr6 : Rd w5 w5.heap.size 1 A3 (n + m) (ints .u8 (a ++ b)) := by
        have := Rd.of_own hown2
        simpa using this
      have e1 := conv_rd (c := c) hr5
      have e2 := conv_rd (c := c') hq5
      clear hr4 hq4 hr5 hq5 hb5 hg2 hown hown2 hs34 HB34
      have hless := HLESS.out
      clear HLESS
      generalize strOfNums (putL a) = X at *
      generalize strOfNums (putL b) = Y at *
      generalize strOfNums a = U at *
      generalize strOfNums b = V at *
      go_wp2_with fail
      refine (HPC.out _ _ _ w5.heap.size (Nat.le_refl _) (by simpa using hr6)).mono ?_
      rintro e w6 ⟨rfl, hb6⟩
      have HB6 := Lib.hid (HB5.out.trans (hb6.mono hs5))
      clear hb6 hr6 e1 e2
      go_wp2
      go_ret
      exact ⟨rfl, HB6.out⟩
end Go.Proofs.Ytonblhannoinfaa
