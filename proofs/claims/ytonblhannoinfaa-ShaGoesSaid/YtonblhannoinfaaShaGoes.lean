/- The walk of ShaGoes. -/
import Derived.Test.YtonblhannoinfaaShaJ
namespace Go.Proofs.Ytonblhannoinfaa
open Go.RowKit
theorem runL_two (L : List Int) (j m : Nat) (hj : j ≤ m) (x : List Int) :
    runL (runL x (L.take (64 * j)) (64 * j / 64)) (L.drop (64 * j)) ((64 * m - 64 * j) / 64) = runL x L m := by
  rw [show 64 * j / 64 = j by omega, show (64 * m - 64 * j) / 64 = m - j by omega]
  unfold runL
  rw [runF_take, ← runF_add, show j + (m - j) = m by omega]
set_option maxHeartbeats 4000000 in
set_option maxRecDepth 10000 in
theorem shaGoes_walk (A : Option Addr) (n c : Nat) (b : List Int) (k : Int) (w : World) (hr : Rd w w.heap.size 1 A n (ints .u8 b)) (hb : ∀ x ∈ b, 0 ≤ x ∧ x < 256) (hnc : n ≤ c) (hk : -9223372036854775808 ≤ k ∧ k ≤ 9223372036854775807) :
    Calls Try.prog 11 #[.slice A n c, .int .i64 k] w fun e w' => e = .returned (.bool true) ∧ Below w.heap.size w w' := by
  have hcase : 1000 < n ∨ (n ≤ 1000 ∧ k < 0) ∨ (n ≤ 1000 ∧ 15 < k) ∨ (n ≤ 1000 ∧ 0 ≤ k ∧ k ≤ 15) := by omega
  rcases hcase with h1 | ⟨h1, h2⟩ | ⟨h1, h2⟩ | ⟨h1, h2, h3⟩
  · have h1' : (1000 : Int) < (n : Int) := by omega
    clear hb hr
    go_enter Try.func11, Try.ntmps11
    go_wp2_with fail
    refine (shaAlive_any w).mono ?_
    rintro e w1 ⟨rfl, hb1⟩
    go_wp2
    go_ret
    exact ⟨rfl, hb1⟩
  · have h1' : ¬ (1000 : Int) < (n : Int) := by omega
    clear hb hr
    go_enter Try.func11, Try.ntmps11
    go_wp2_with fail
    refine (shaAlive_any w).mono ?_
    rintro e w1 ⟨rfl, hb1⟩
    go_wp2
    go_ret
    exact ⟨rfl, hb1⟩
  · have h1' : ¬ (1000 : Int) < (n : Int) := by omega
    clear hb hr
    go_enter Try.func11, Try.ntmps11
    go_wp2_with fail
    refine (shaAlive_any w).mono ?_
    rintro e w1 ⟨rfl, hb1⟩
    go_wp2
    go_ret
    exact ⟨rfl, hb1⟩
  · have h1' : ¬ (1000 : Int) < (n : Int) := by omega
    have hl : b.length = n := by have := hr.1; simpa [ints] using this
    have hT : (n + (padL n).length) % 64 = 0 ∧ 9 ≤ (padL n).length ∧ (padL n).length ≤ 72 := by rw [padL_length]; omega
    have HT := Lib.hid hT
    have HT8 := Lib.hid (padL_b8 n)
    have HLN := Lib.hid hl
    have HB8 : Hid (Bytes8 b) := Lib.hid hb
    have hp : padErr (n : Int) = 0 ∧ padO (n : Int) = padL n := by
      have : 0 ≤ (n : Int) ∧ (n : Int) ≤ 16384 := by omega
      exact ⟨by unfold padErr; rw [if_pos this], by unfold padO; rw [if_pos this]; simp⟩
    have HP := Lib.hid hp
    have hs : shaErr b.length = 0 ∧ shaO b = digestL b := ⟨by unfold shaErr; rw [if_neg (by omega)], by unfold shaO; rw [if_neg (by omega)]⟩
    have HS := Lib.hid hs
    have HSL := Lib.hid (digestL_length b)
    have HR := Lib.hid hr
    clear hl hT hb hp hs hr
    go_enter Try.func11, Try.ntmps11
    go_wp2_with fail
    refine (shaAlive_any w).mono ?_
    rintro e w1 ⟨rfl, hb1⟩
    have HB1 := Lib.hid hb1
    clear hb1
    go_wp2_with fail
    refine (pad_any (n : Int) _ (by omega) (by omega)).mono ?_
    rintro e w2 ⟨A2, c2, he, hr2, hb2, _⟩
    rw [HP.out.1, HP.out.2] at he
    rw [HP.out.2] at hr2
    subst he
    have HB2 := Lib.hid (HB1.out.trans (hb2.mono HB1.out.size))
    have HR2 := Lib.hid hr2
    generalize hTT : padL n = T at *
    have HTT := Box.mk hTT
    generalize htl : T.length = t at *
    have HTL := Box.mk htl
    obtain ⟨ht64, ht9, ht72⟩ := HT.out
    have HT64 := Lib.hid ht64
    have hsB2 := HB2.out.size
    clear hr2 hb2 hTT HP htl ht64 HT
    go_wp2_with fail
    refine (of_all_sha A n c w.heap.size b w2 hsB2 (HR.out.below HB2.out (Nat.le_refl _)) HB8.out hnc (by omega)).mono ?_
    rintro e w3 ⟨rfl, hb3⟩
    rw [HS.out.1, HS.out.2]
    have HB3 := Lib.hid (HB2.out.trans (hb3.mono hsB2))
    have HR23 := Lib.hid ((HR2.out.below hb3 (Nat.le_refl _)).more hb3.size)
    have hs3 := HB3.out.size
    generalize hDD : digestL b = D at *
    have HDD := Box.mk hDD
    clear hb3 hDD HS HR2
    go_upto_region 6 with (refine wpList_store_row rfl 43 (.tmp 8) (.tmp 39) rfl w3.heap.size (ints .u8 D).toArray rfl rfl _ _ (heap_alloc_new w3 _) (size20 HSL.out) (old20 HSL.out) (ints_all_one _ _) ?_)
    rw [zero20]
    obtain ⟨h84, hx4⟩ := new20 w3 D
    generalize (w3.alloc (.cells (ints .u8 (List.replicate 20 0)).toArray 43)).setRow w3.heap.size (ints .u8 D).toArray = w4 at *
    obtain ⟨g8, hg8⟩ : ∃ g8, g8 = w3.heap.size := ⟨_, rfl⟩
    rw [← hg8] at h84
    rw [← hg8]
    have H84 := Lib.hid h84
    have HR24 := Lib.hid ((HR23.out.below hx4 (Nat.le_refl _)).more hx4.size)
    have HB4 := Lib.hid (HB3.out.trans (hx4.mono hs3))
    have hs4 := HB4.out.size
    have hg84 : w.heap.size ≤ g8 := by omega
    have hg8l := h84.lt
    clear h84 hx4 hg8 HR23
    have h0 : (w4.alloc (.cells #[] 5)).ownsRow w4.heap.size 5 1 (.slice (some ⟨w4.heap.size, 0, none⟩) 0 0) 0 (ints .u8 []) := World.ownsRow_lit w4 #[] 0 (Nat.le_refl _) (by unfold maxLen; omega) rfl
    have HO0 := Lib.hid h0
    have hcap : w4.heap.size ≤ (w4.alloc (.cells #[] 5)).heap.size := by simp
    clear h0
    go_wp2_with (at_builtin; refine app_u8s rfl _ _ rfl w4.heap.size _ _ _ rfl HO0.out w.heap.size _ _ _ b rfl ((HR.out.below HB4.out (Nat.le_refl _)).alloc hs4 _) (by omega) hcap ?_)
    intro v5 w5 hown5 hg5 _
    obtain ⟨A5, c5, rfl⟩ := own_form hown5
    have hx5 : Below w4.heap.size w4 w5 := ((Below.refl w4.heap.size w4).alloc (Nat.le_refl _) (.cells #[] 5)).grown hg5 (by simp) (fun q hq => (HO0.out.lt q hq).1)
    have HO5 := Lib.hid hown5
    have hs5 := hx5.size
    have HX5 := Lib.hid hx5
    have HR25 := Lib.hid (HR24.out.below hx5 (Nat.le_refl _))
    clear hown5 hg5 hx5 hcap
    go_wp2_with (at_builtin; refine app_u8s rfl _ _ rfl w4.heap.size _ _ _ rfl HO5.out w4.heap.size _ _ _ T rfl HR25.out (by omega) hs5 ?_)
    intro v6 w6 hown6 hg6 _
    obtain ⟨A6, c6, rfl, hc6⟩ : ∃ A6 c6, v6 = .slice A6 (n + t) c6 ∧ n + t ≤ c6 := by
      rcases hown6.2 with ⟨hv, h0⟩ | ⟨g, cap, cur, hv, _, _, hc, _⟩
      · omega
      · exact ⟨_, _, hv, hc⟩
    have hx6 : Below w4.heap.size w4 w6 := HX5.out.grown hg6 hs5 (fun q hq => (HO5.out.lt q hq).1)
    have hlst : ints .u8 b ++ ints .u8 T = ints .u8 (b ++ T) := by simp [ints]
    have HR6 := Lib.hid (Rd.of_own hown6)
    have HB6 := Lib.hid (HB4.out.trans (hx6.mono hs4))
    have H86 := Lib.hid (H84.out.ext hx6)
    have hs6 := HB6.out.size
    have hLL : b ++ T = allL b := by unfold allL; rw [HLN.out, HTT.out]
    have hLen : (b ++ T).length = n + t := by rw [List.length_append, HLN.out, HTL.out]
    have hL8 : Bytes8 (b ++ T) := fun x hx => (List.mem_append.1 hx).elim (HB8.out x) (HT8.out x)
    obtain ⟨m, hm⟩ : ∃ m, n + t = 64 * m := ⟨(n + t) / 64, by have := HT64.out; omega⟩
    have hdig : bytesL (runL firstL (b ++ T) m) = D := by
      rw [← HDD.out]
      unfold digestL
      rw [← hLL, hLen, show (n + t) / 64 = m by omega]
    have HDIG := Box.mk hdig
    have HLEN := Lib.hid hLen
    have HL8 := Lib.hid hL8
    have HM := Lib.hid hm
    have hmodI : ((n : Int) + (t : Int)) % 64 = 0 := by omega
    clear HTT HDD hlst hown6 hg6 hx6 hLL hLen hL8 hdig HO0 HO5 HX5 HR25 HR24 HR HB4 HB3 HB2 HB1 hs5 hs4 H84 HT64 HB8 HT8 HLN hm
    generalize b ++ T = L at *
    have hm := HM.out
    obtain ⟨N, hN⟩ : ∃ N, N = n + t := ⟨_, rfl⟩
    have HR7 : Hid (Rd w6 w6.heap.size 1 A6 N (ints .u8 L)) := by rw [hN]; exact HR6.out
    rw [← hN] at hm hc6
    rw [← hN]
    obtain ⟨j, hj⟩ : ∃ j, j = min k.toNat m := ⟨_, rfl⟩
    have hjm : j ≤ m := by omega
    obtain ⟨K, hK⟩ : ∃ K, K = 64 * j := ⟨_, rfl⟩
    have hKN : K ≤ N := by omega
    have hmin : min (64 * k) (N : Int) = (K : Int) := by omega
    have hN2 : N ≤ 1100 := by omega
    have hmod : (N : Int) % 64 = 0 := by omega
    have hdiv : N / 64 = m := by omega
    have htwo := runL_two L j m hjm firstL
    rw [← hK, ← hm] at htwo
    have HTWO := Box.mk htwo
    have HDIV := Box.mk hdiv
    have HMOD := Lib.hid hmod
    have HKN := Lib.hid hKN
    have HN2 := Lib.hid hN2
    have HC6 := Lib.hid hc6
    have HMIN := Lib.hid hmin
    have HNK := Box.mk hm
    clear htwo hdiv hmodI hN hj hjm hK hKN hN2 hmod hc6 hm HR6 HM HLEN hmin ht9 ht72 HTL
    have hmodc := HMOD.out
    go_wp2_with fail
    refine (first_any w6).mono ?_
    rintro e w7 ⟨rfl, hb7⟩
    have HB7 := Lib.hid (HB6.out.trans (hb7.mono hs6))
    have HR77 := Lib.hid ((HR7.out.below hb7 (Nat.le_refl _)).more hb7.size)
    have H87 := Lib.hid (H86.out.ext hb7)
    clear hb7 HB6 HR7 H86
    go_wp2_with fail
    refine (from_any A6 N c6 w7.heap.size L firstL w7 (Nat.le_refl _) HR77.out HL8.out first_w5 (by have := HN2.out; omega)).mono ?_
    rintro e w8 ⟨rfl, hb8⟩
    rw [HDIV.out]
    have hXW : W5 (runL firstL L m) := runL_w5 m _ _ first_w5
    have HXW := Box.mk hXW
    have HB8 := Lib.hid (HB7.out.trans (hb8.mono HB7.out.size))
    have HR8 := Lib.hid ((HR77.out.below hb8 (Nat.le_refl _)).more hb8.size)
    have H88 := Lib.hid (H87.out.ext hb8)
    have hs8 := HB8.out.size
    rw [HDIV.out] at *
    generalize hXX : runL firstL L m = X at *
    have hi5 : (Try.prog.info? 23).map (·.size) = some (ints .u32 X).toArray.size := by rw [show (ints .u32 X).toArray.size = 5 by simpa [ints] using HXW.out.1]; kernel_rfl
    have hol : zero5.size = (ints .u32 X).toArray.size := by rw [show (ints .u32 X).toArray.size = 5 by simpa [ints] using HXW.out.1]; rfl
    have HI5 := Lib.hid hi5
    have HOL := Lib.hid hol
    have H5A : Hid ((w8.alloc (.cells zero5 23)).heap[w8.heap.size]? = some (.cells zero5 23 (0, 0))) := heap_alloc_new w8 _
    clear hb8 HB7 HR77 H87 hXW hXX hi5 hol
    go_upto_region 10 with (refine wpList_store_row rfl 23 (.tmp 11) (.tmp 60) rfl w8.heap.size (ints .u32 X).toArray rfl rfl _ _ H5A.out HI5.out HOL.out (ints_all_one _ _) ?_)
    have hx9 : Below w8.heap.size w8 ((w8.alloc (.cells #[.int .u32 0, .int .u32 0, .int .u32 0, .int .u32 0, .int .u32 0] 23)).setRow w8.heap.size (ints .u32 X).toArray) := below_setRow ((Below.refl _ w8).alloc (Nat.le_refl _) _) (Nat.le_refl _) _
    have h119 : RowAt ((w8.alloc (.cells #[.int .u32 0, .int .u32 0, .int .u32 0, .int .u32 0, .int .u32 0] 23)).setRow w8.heap.size (ints .u32 X).toArray) w8.heap.size 23 .u32 X := setRow_heap _ w8.heap.size _ _ _ _ H5A.out
    generalize (w8.alloc (.cells #[.int .u32 0, .int .u32 0, .int .u32 0, .int .u32 0, .int .u32 0] 23)).setRow w8.heap.size (ints .u32 X).toArray = w9 at *
    obtain ⟨g11, hg11⟩ : ∃ g11, g11 = w8.heap.size := ⟨_, rfl⟩
    rw [← hg11] at h119
    rw [← hg11]
    have HB9 := Lib.hid (HB8.out.trans (hx9.mono hs8))
    have HR9 := Lib.hid ((HR8.out.below hx9 (Nat.le_refl _)).more hx9.size)
    have H89 := Lib.hid (H88.out.ext hx9)
    have H119 := Lib.hid h119
    have hmin := HMIN.out
    obtain ⟨AF, hfr, hfrd⟩ := front_u8s A6 N c6 K HKN.out HC6.out
    obtain ⟨AC, hcu, hcud⟩ := cut_u8s A6 N c6 K HKN.out
    have HFR := Lib.hid hfr
    have HCU := Lib.hid hcu
    have HFD := Lib.hid (hfrd w9 w9.heap.size _ HR9.out)
    have HCD := Lib.hid (hcud w9 w9.heap.size _ HC6.out HR9.out)
    have hs9 := HB9.out.size
    clear hx9 h119 hg11 HB8 HR8 H88 hfr hcu hfrd hcud H5A HOL HDIV hs8
    go_wp2_with fail
    clear hmin hmodc
    have hext : ∀ W, Ext w9.drew W → Below w9.heap.size w9 W := fun W hW => (Below.refl w9.heap.size w9).drew.trans hW
    refine wp_region_typed rfl (by kernel_rfl) (by kernel_rfl) ?_
    refine tw_move (.inl (.bool true)) (stable_is _) (.inl rfl) rfl (wd_none rfl) ?_
    refine tw_move (.inl (.bool true)) (stable_is _) (.inl rfl) rfl (wd_none rfl) ?_
    refine tw_val (SlT .u32 X) (stable_sl _ _) (wd_yes rfl rfl rfl) (fun α W hW hs => by
      have h1 : α.tmps.getD 11 undef = .pointer (some ⟨g11, 0, none⟩) := hs 11 (by decide)
      have h5 := H119.out.ext (hext W hW)
      refine ⟨.slice (some ⟨g11, 0, none⟩) 5 5, W, ?_, Ext.refl _, some ⟨g11, 0, none⟩, 5, by rw [HXW.out.1], ?_⟩
      · simp only [execOp, Act.eval, h1]
        go_simp
      · refine ⟨by simp [ints], fun _ => ⟨g11, 0, rfl, h5.lt, fun j u hu => ?_⟩⟩
        obtain ⟨x, hx, rfl⟩ := ints_get hu
        rw [Nat.zero_add]
        exact h5.cell hx) ?_
    refine tw_call (SlT .u8 D) (stable_sl _ _) (wd_yes rfl rfl rfl) (fun α W hW hs => ?_) ?_
    · obtain ⟨Ax, cx, ex, hx⟩ := hs 68 (by decide)
      refine ⟨38, #[.slice Ax X.length cx], by simp only [execOp, resolve, Act.eval]; go_simp, ?_⟩
      refine (bytes_any _ _ _ _ X W (by rw [HXW.out.1]; omega) (Nat.le_refl _) HXW.out.2 hx).mono ?_
      rintro e w' ⟨v, rfl, hown, hbw⟩
      obtain ⟨Av, cv, rfl⟩ := own_form hown
      have e4 : 4 * X.length = D.length := by rw [← HDIG.out, bytesL_length]
      rw [HDIG.out, e4] at hown
      exact ⟨_, rfl, hbw, Av, cv, by rw [e4], Rd.of_own hown⟩
    refine tw_conv D rfl rfl (wd_yes rfl rfl rfl) ?_
    refine tw_val (SlT .u8 D) (stable_sl _ _) (wd_yes rfl rfl rfl) (fun α W hW hs => by
      have h1 : α.tmps.getD 8 undef = .pointer (some ⟨g8, 0, none⟩) := hs 8 (by decide)
      have h5 := H89.out.ext (hext W hW)
      refine ⟨.slice (some ⟨g8, 0, none⟩) 20 20, W, ?_, Ext.refl _, some ⟨g8, 0, none⟩, 20, by rw [HSL.out], ?_⟩
      · simp only [execOp, Act.eval, h1]
        go_simp
      · refine ⟨by simp [ints], fun _ => ⟨g8, 0, rfl, h5.lt, fun j u hu => ?_⟩⟩
        obtain ⟨x, hx, rfl⟩ := ints_get hu
        rw [Nat.zero_add]
        exact h5.cell hx) ?_
    refine tw_conv D rfl rfl (wd_yes rfl rfl rfl) ?_
    refine tw_two (s := 70) (t := 72) (.bool true) (by decide) (by decide) rfl rfl (wd_yes rfl rfl rfl) (fun ρ W h1 h2 h3 => by
      generalize strOfNums D = S at *
      simp only [execOp, h1, h2]; go_simp) ?_
    refine tw_two (s := 67) (t := 73) (.bool true) (by decide) (by decide) rfl rfl (wd_none rfl) (fun ρ W h1 h2 h3 => by simp only [execOp, h1, h2, h3]; go_simp) ?_
    refine tw_move (.inl (.bool true)) (stable_is _) (.inl rfl) rfl (wd_none rfl) ?_
    refine tw_fnB #[] (.agg (ints .u32 firstL).toArray) rfl (fun W => by go_simp) rfl (wd_yes rfl rfl rfl) (fun W _ => first_any W) ?_
    refine tw_move (.inl (.slice A6 N c6)) (stable_is _) (.inl rfl) rfl (wd_yes rfl rfl rfl) ?_
    refine tw_move (.inl (.int .i64 (K : Int))) (stable_is _) (.inl rfl) rfl (wd_yes rfl rfl rfl) ?_
    refine tw_two (s := 77) (t := 78) (.slice AF K c6) (by decide) (by decide) rfl rfl (wd_yes rfl rfl rfl) (fun ρ W h1 h2 h3 => by
      have h5 := HFR.out W
      have h4 := run_sliceAt_slice (P := Try.prog) W 28 (.slice A6 N c6) none (some (.int .i64 (K : Int))) none (by kernel_rfl)
      rw [h5] at h4
      simp only [execOp, h1, h2, Option.map_none, Option.map_some, Sem.run_bind, h4, Result.andThen_ok, Sem.run_pure]) ?_
    refine tw_fnB #[.agg (ints .u32 firstL).toArray, .slice AF K c6] (.agg (ints .u32 (runL firstL (L.take K) (K / 64))).toArray) rfl (fun W => by go_simp) rfl (wd_yes rfl rfl rfl) (fun W hW =>
      from_any AF K c6 w9.heap.size (L.take K) firstL W (hext W hW).size (by have := HFD.out.below (hext W hW) (Nat.le_refl _); simpa [ints, List.map_take] using this) (fun x hx => HL8.out x (List.mem_of_mem_take hx)) first_w5 (by have := HN2.out; have := HKN.out; omega)) ?_
    refine tw_move (.inl (.slice A6 N c6)) (stable_is _) (.inl rfl) rfl (wd_yes rfl rfl rfl) ?_
    refine tw_move (.inl (.int .i64 (K : Int))) (stable_is _) (.inl rfl) rfl (wd_yes rfl rfl rfl) ?_
    refine tw_two (s := 81) (t := 82) (.slice AC (N - K) (c6 - K)) (by decide) (by decide) rfl rfl (wd_yes rfl rfl rfl) (fun ρ W h1 h2 h3 => by
      have h5 := HCU.out W
      have h4 := run_sliceAt_slice (P := Try.prog) W 28 (.slice A6 N c6) (some (.int .i64 (K : Int))) none none (by kernel_rfl)
      rw [h5] at h4
      simp only [execOp, h1, h2, Option.map_none, Option.map_some, Sem.run_bind, h4, Result.andThen_ok, Sem.run_pure]) ?_
    refine tw_fnB #[.agg (ints .u32 (runL firstL (L.take K) (K / 64))).toArray, .slice AC (N - K) (c6 - K)] (.agg (ints .u32 X).toArray) rfl (fun W => by go_simp) rfl (wd_yes rfl rfl rfl) (fun W hW => by
      have h := from_any AC (N - K) (c6 - K) w9.heap.size (L.drop K) (runL firstL (L.take K) (K / 64)) W (hext W hW).size (by have := HCD.out.below (hext W hW) (Nat.le_refl _); simpa [ints, List.map_drop] using this) (fun x hx => HL8.out x (List.mem_of_mem_drop hx)) (runL_w5 _ _ _ first_w5) (by have := HN2.out; omega)
      rwa [HTWO.out] at h) ?_
    refine tw_ldrow (g := g11) (cs := (ints .u32 X).toArray) (t := 23) (fr := (0, 0)) rfl rfl (fun W hW => H119.out.ext (hext W hW)) Try.underlying23 HI5.out (wd_yes rfl rfl rfl) ?_
    refine tw_eql5 X HXW.out.1 rfl rfl rfl (wd_yes rfl rfl rfl) ?_
    refine tw_two (s := 75) (t := 86) (.bool true) (by decide) (by decide) rfl rfl (wd_none rfl) (fun ρ W h1 h2 h3 => by simp only [execOp, h1, h2, h3]; go_simp) ?_
    refine tw_move (.inl (.bool true)) (stable_is _) (.inr rfl) rfl (wd_none rfl) ?_
    dsimp only [wpT, List.reverse, List.reverseAux, FinT, SlT]
    intro v68 v69 v71 W hW _
    simp only [Act.put, List.setIfInBounds_toArray, List.set_cons_zero, List.set_cons_succ]
    have HW := Lib.hid (HB9.out.trans ((hext W hW).mono hs9))
    clear hW hext
    generalize (ints .u32 X).toArray = XA at *
    generalize (ints .u32 (runL firstL (L.take K) (K / 64))).toArray = YA at *
    generalize (ints .u32 firstL).toArray = FA at *
    generalize strOfNums D = S at *
    go_wp2
    go_ret
    exact ⟨rfl, HW.out⟩
end Go.Proofs.Ytonblhannoinfaa
