/- The walks of the functions of layer 2 that only reckon, the program's and the document's: each answers as the plain functions here. No condition but that words are from 0 to 4294967295. -/
import Derived.Test.YtbmebioakmlliaaMem
import Derived.Test.YtbmebioakmlliaaPlainA
namespace Go.Proofs.Ytbmebioakmlliaa
open Go.RowKit

theorem u64_tmod32 (n : Int) : (IntKind.u64.wrap n).tmod 32 = n % 32 := by
  simp [IntKind.wrap, IntKind.bits, IntKind.signed]
  rw [Int.tmod_eq_emod_of_nonneg (by omega)]
  omega
set_option maxHeartbeats 400000 in
theorem turn_any (x : Int) (n : Int) (w : World) :
    Calls Try.prog 24 #[.int .u32 x, .int .i64 n] w fun e w' => e = .returned (.int .u32 (turnI x n)) ∧ w = w' := by
  have h1 := u64_tmod32 n
  have h2 : 0 ≤ n % 32 := by omega
  have h3 : 0 ≤ 32 - n % 32 := by omega
  have h4 : IntKind.u64.wrap (32 - n % 32) = 32 - n % 32 := by simp [IntKind.wrap, IntKind.bits, IntKind.signed]; omega
  go_enter Try.func24, Try.ntmps24
  go_wp2
  go_ret
  exact ⟨rfl, rfl⟩

theorem choose_any (x y z : Int) (w : World) :
    Calls Try.prog 29 #[.int .u32 x, .int .u32 y, .int .u32 z] w fun e w' => e = .returned (.int .u32 (chooseI x y z)) ∧ w = w' := by
  go_enter Try.func29, Try.ntmps29
  go_wp2
  go_ret
  exact ⟨rfl, rfl⟩
theorem most_any (x y z : Int) (w : World) :
    Calls Try.prog 33 #[.int .u32 x, .int .u32 y, .int .u32 z] w fun e w' => e = .returned (.int .u32 (mostI x y z)) ∧ w = w' := by
  go_enter Try.func33, Try.ntmps33
  go_wp2
  go_ret
  exact ⟨rfl, rfl⟩

theorem sum1_any (x y : Int) (w : World) :
    Calls Try.prog 72 #[.int .u32 x, .int .u32 y] w fun e w' => e = .returned (.int .u32 (addI x y)) ∧ w = w' := by
  go_enter Try.func72, Try.ntmps72
  go_wp2
  go_ret
  exact ⟨rfl, rfl⟩
theorem odd1_any (x y : Int) (w : World) :
    Calls Try.prog 74 #[.int .u32 x, .int .u32 y] w fun e w' => e = .returned (.int .u32 (bits .xor .u32 x y)) ∧ w = w' := by
  go_enter Try.func74, Try.ntmps74
  go_wp2
  go_ret
  exact ⟨rfl, rfl⟩

set_option maxHeartbeats 400000 in
set_option maxRecDepth 10000 in
theorem fold_any (g : Int → Int → Int) (fid : FuncId) (hcall : ∀ args W, (callFunc fid args).run Try.prog W = .ok (.enter fid args) W) (hg : ∀ x y W, Calls Try.prog fid #[.int .u32 x, .int .u32 y] W fun e W' => e = .returned (.int .u32 (g x y)) ∧ W = W')
    (A : Option Addr) (n c B : Nat) (l : List Int) (w : World) (hn : n ≤ 9223372036854775807) (h : Rd w B 1 A n (ints .u32 l)) :
    Calls Try.prog 71 #[.slice A n c, .func (.func fid) #[] #[]] w fun e w' => e = .returned (.int .u32 (foldI g l)) ∧ w = w' := by
  have HG := Lib.hid hg
  clear hg
  go_enter Try.func71, Try.ntmps71
  go_wp2
  go_loop [4, 9] (fun x i => ∃ k : Nat, k ≤ n ∧ i = .int .i64 k ∧ x = .int .u32 (foldI g (l.take k))) (fun _ i => n - (intOf i).toNat)
  case atStart => exact ⟨0, by omega, rfl, rfl⟩
  case round =>
    obtain ⟨k, hk, rfl, rfl⟩ := hrel
    by_cases hlt : k < n
    · obtain ⟨bA, oA, u, rfl, _, hx0, hc⟩ := h.at_ hlt
      obtain ⟨x, hx, rfl⟩ := ints_get hx0
      have HX := Lib.hid (foldI_snoc g l k x hx)
      clear hx hx0 h
      generalize foldI g (l.take k) = s at *
      go_wp2_with fail
      refine (HG.out _ _ _).mono ?_
      rintro e w' ⟨rfl, rfl⟩
      go_wp2
      go_round
      case rel => exact ⟨k + 1, by omega, by go_num, by rw [HX.out]⟩
      case measure => simp [intOf]; omega
    · go_wp2
      go_ret
      have : l.length = n := by have := h.1; simpa [ints] using this
      refine ⟨?_, rfl⟩
      rw [List.take_of_length_le (by omega)]
      rfl
theorem call_sum1 (args : Array Value) (W : World) : (callFunc 72 args).run Try.prog W = .ok (.enter 72 args) W := by go_simp
theorem call_odd1 (args : Array Value) (W : World) : (callFunc 74 args).run Try.prog W = .ok (.enter 74 args) W := by go_simp
theorem sum_any (A : Option Addr) (n c B : Nat) (l : List Int) (w : World) (hn : n ≤ 9223372036854775807) (h : Rd w B 1 A n (ints .u32 l)) :
    Calls Try.prog 26 #[.slice A n c] w fun e w' => e = .returned (.int .u32 (sumI l)) ∧ w = w' := by
  go_enter Try.func26, Try.ntmps26
  go_wp2_with fail
  refine (fold_any addI _ call_sum1 sum1_any _ _ _ B l _ hn h).mono ?_
  rintro e w' ⟨rfl, rfl⟩
  go_wp2
  go_ret
  exact ⟨rfl, rfl⟩
theorem odd_any (x y z : Int) (w : World) :
    Calls Try.prog 31 #[.int .u32 x, .int .u32 y, .int .u32 z] w fun e w' => e = .returned (.int .u32 (oddI x y z)) ∧ Below w.heap.size w w' := by
  go_enter Try.func31, Try.ntmps31
  go_wp2_with fail
  refine (fold_any (bits .xor .u32) _ call_odd1 odd1_any _ _ _ _ [x, y, z] _ (by simp) (Rd.new w _ _ rfl)).mono ?_
  rintro e w' ⟨rfl, rfl⟩
  go_wp2
  go_ret
  exact ⟨rfl, (Below.refl _ _).alloc (Nat.le_refl _) _⟩

/-! ### The document's -/
theorem up_any (x : Int) (h0 : 0 ≤ x) (h1 : x < 4294967296) (w : World) :
    Calls Try.prog 70 #[.int .u32 x] w fun e w' => e = .returned (.int .u32 (upI x)) ∧ w = w' := by
  go_enter Try.func70, Try.ntmps70
  go_wp2
  go_ret
  exact ⟨rfl, rfl⟩
set_option maxHeartbeats 400000 in
set_option maxRecDepth 10000 in
theorem refturn_any (x n : Int) (h0 : 0 ≤ x) (h1 : x < 4294967296) (hn0 : -9223372036854775808 ≤ n) (hn1 : n ≤ 9223372036854775807) (w : World) :
    Calls Try.prog 25 #[.int .u32 x, .int .i64 n] w fun e w' => e = .returned (.int .u32 (ups x (n % 32).toNat)) ∧ w = w' := by
  have hcase : (n < 0 ∧ n.tmod 32 < 0 ∧ n.tmod 32 + 32 = n % 32) ∨ n.tmod 32 = n % 32 := by
    have := Int.tmod_eq_emod (a := n) (b := 32); split at this <;> omega
  have hd : n % 32 < 32 := by omega
  have hc : 0 ≤ n % 32 := by omega
  obtain ⟨m, hm⟩ := Int.eq_ofNat_of_zero_le hc
  have hm1 : (m : Int) < 32 := by omega
  have HM : Hid ((n % 32).toNat = m) := by show _ = _; omega
  clear hd hc
  rcases hcase with ⟨hneg, ha, hb⟩ | ha
  · rw [hm] at hb
    clear hm
    go_enter Try.func25, Try.ntmps25
    go_wp2
    go_loop [0, 5] (fun y i => ∃ k : Nat, k ≤ m ∧ i = .int .i64 k ∧ y = .int .u32 (ups x k)) (fun _ i => m - (intOf i).toNat)
    case atStart => exact ⟨0, by omega, rfl, rfl⟩
    case round =>
      obtain ⟨k, hk, rfl, rfl⟩ := hrel
      have hu := ups_bd x h0 h1 k
      have HX : Hid (ups x (k + 1) = upI (ups x k)) := rfl
      by_cases hlt : k < m
      · generalize ups x k = y at *
        go_wp2_with fail
        refine (up_any _ hu.1 hu.2 _).mono ?_
        rintro e w' ⟨rfl, rfl⟩
        go_wp2
        go_round
        case rel => exact ⟨k + 1, by omega, by go_num, by rw [HX.out]⟩
        case measure => simp [intOf]; omega
      · have hkm : k = m := by omega
        have HK := Lib.hid hkm
        clear hkm
        go_wp2
        go_ret
        exact ⟨ret_int (by rw [HM.out, HK.out]), rfl⟩
  · have ha' : n.tmod 32 = (m : Int) := by omega
    clear hm ha
    go_enter Try.func25, Try.ntmps25
    go_wp2
    go_loop [0, 5] (fun y i => ∃ k : Nat, k ≤ m ∧ i = .int .i64 k ∧ y = .int .u32 (ups x k)) (fun _ i => m - (intOf i).toNat)
    case atStart => exact ⟨0, by omega, rfl, rfl⟩
    case round =>
      obtain ⟨k, hk, rfl, rfl⟩ := hrel
      have hu := ups_bd x h0 h1 k
      have HX : Hid (ups x (k + 1) = upI (ups x k)) := rfl
      by_cases hlt : k < m
      · generalize ups x k = y at *
        go_wp2_with fail
        refine (up_any _ hu.1 hu.2 _).mono ?_
        rintro e w' ⟨rfl, rfl⟩
        go_wp2
        go_round
        case rel => exact ⟨k + 1, by omega, by go_num, by rw [HX.out]⟩
        case measure => simp [intOf]; omega
      · have hkm : k = m := by omega
        have HK := Lib.hid hkm
        clear hkm
        go_wp2
        go_ret
        exact ⟨ret_int (by rw [HM.out, HK.out]), rfl⟩
set_option maxHeartbeats 400000 in
set_option maxRecDepth 10000 in
theorem bit_any (x n : Int) (h0 : 0 ≤ x) (h1 : x < 4294967296) (hn : 0 ≤ n) (w : World) :
    Calls Try.prog 91 #[.int .u32 x, .int .i64 n] w fun e w' => e = .returned (.int .i64 (x / 2 ^ n.toNat % 2)) ∧ w = w' := by
  have h2 : 0 ≤ x / 2 ^ (min n.toNat 64) := Int.ediv_nonneg h0 (Int.pow_nonneg (by omega))
  go_enter Try.func91, Try.ntmps91
  go_wp2
  go_ret
  refine ⟨ret_int ?_, rfl⟩
  rcases Nat.le_total n.toNat 64 with h | h
  · rw [Nat.min_eq_left h]
  · have e : ∀ k : Nat, 64 ≤ k → x / 2 ^ k = 0 := fun k hk => by
      apply Int.ediv_eq_zero_of_lt h0
      have h3 : (2 : Int) ^ 32 ≤ 2 ^ k := by exact_mod_cast Nat.pow_le_pow_right (by omega : 0 < 2) (by omega : 32 ≤ k)
      omega
    rw [Nat.min_eq_right h, e 64 (by omega), e n.toNat h]



set_option maxHeartbeats 400000 in
set_option maxRecDepth 10000 in
theorem refsum_any (A : Option Addr) (n c B : Nat) (l : List Int) (hl : ∀ x ∈ l, 0 ≤ x ∧ x < 4294967296) (w : World) (hn : n ≤ 1000000000) (h : Rd w B 1 A n (ints .u32 l)) :
    Calls Try.prog 27 #[.slice A n c] w fun e w' => e = .returned (.int .u32 (sumI l)) ∧ w = w' := by
  have HL := Lib.hid hl
  clear hl
  go_enter Try.func27, Try.ntmps27
  go_wp2
  go_loop [3, 4] (fun x i => ∃ k : Nat, k ≤ n ∧ i = .int .i64 k ∧ x = .int .i64 (foldI addI (l.take k))) (fun _ i => n - (intOf i).toNat)
  case atStart => exact ⟨0, by omega, rfl, rfl⟩
  case round =>
    obtain ⟨k, hk, rfl, rfl⟩ := hrel
    have hb : 0 ≤ foldI addI (l.take k) ∧ foldI addI (l.take k) < 4294967296 := foldI_addI_bd _
    by_cases hlt : k < n
    · obtain ⟨bA, oA, u, rfl, _, hx0, hc⟩ := h.at_ hlt
      obtain ⟨x, hx, rfl⟩ := ints_get hx0
      have hxb := HL.out x (List.mem_of_getElem? hx)
      have HX := Lib.hid (foldI_snoc addI l k x hx)
      clear hx hx0 h
      generalize foldI addI (l.take k) = s at *
      go_wp2
      go_round
      case rel => exact ⟨k + 1, by omega, by go_num, by rw [HX.out]; rfl⟩
      case measure => simp [intOf]; omega
    · have : l.length = n := by have := h.1; simpa [ints] using this
      have hf : foldI addI (l.take k) = sumI l := by rw [List.take_of_length_le (by omega)]; rfl
      have HF := Lib.hid hf
      clear hf this
      generalize foldI addI (l.take k) = s at *
      go_wp2
      go_ret
      exact ⟨ret_int HF.out, rfl⟩

set_option maxHeartbeats 400000 in
set_option maxRecDepth 10000 in
theorem same_any (A A' : Option Addr) (n c n' c' B B' : Nat) (l l' : List Int) (w : World) (hn : n ≤ 1000000000) (hn' : n' ≤ 1000000000) (h : Rd w B 1 A n (ints .u32 l)) (h' : Rd w B' 1 A' n' (ints .u32 l')) :
    Calls Try.prog 28 #[.slice A n c, .slice A' n' c'] w fun e w' => e = .returned (.bool (l == l')) ∧ ∃ m, w' = w.drewN m := by
  have hl : l.length = n := by have := h.1; simpa [ints] using this
  have hl' : l'.length = n' := by have := h'.1; simpa [ints] using this
  by_cases hne : n = n'
  · subst hne
    have hb : ((n : Int) != (n : Int)) = false := by rw [bne_eq_false_iff_eq]
    go_enter Try.func28, Try.ntmps28
    go_wp2
    go_loopw [5] (fun i wr => ∃ k m : Nat, k ≤ n ∧ i = .int .i64 k ∧ l.take k = l'.take k ∧ wr = w.drewN m) (fun i _ => n - (intOf i).toNat)
    case atStart => exact ⟨0, 0, by omega, rfl, rfl, rfl⟩
    case round =>
      obtain ⟨k, m, hk, rfl, ht, rfl⟩ := hrel
      have HT := Lib.hid ht
      clear ht
      by_cases hlt : k < n
      · obtain ⟨bA, oA, u, rfl, _, hx0, hc⟩ := h.at_ hlt
        obtain ⟨bA', oA', u', rfl, _, hx0', hc'⟩ := h'.at_ hlt
        obtain ⟨x, hx, rfl⟩ := ints_get hx0
        obtain ⟨x', hx', rfl⟩ := ints_get hx0'
        by_cases hxx : x = x'
        · subst hxx
          have ht1 : Hid (l.take (k + 1) = l'.take (k + 1)) := by
            show _ = _
            rw [List.take_add_one, List.take_add_one, hx, hx', HT.out]
          have hb1 : (x != x) = false := by simp
          clear hx hx' hx0 hx0' h h' hl hl' HT
          go_wp2
          go_quiet (fail)
          go_wp2
          exact ⟨⟨k + 1, m + _, by omega, by go_num, ht1.out, rfl⟩, by simp [intOf]; omega⟩
        · have hne : Hid ((l == l') = false) := by
            show _ = _
            rw [beq_eq_false_iff_ne]
            intro e
            rw [e] at hx
            rw [hx] at hx'
            injection hx' with hx'
            exact hxx hx'
          have hb1 : (x != x') = true := by simpa using hxx
          clear hx hx' hx0 hx0' h h' hl hl' HT hxx
          go_wp2
          go_quiet (fail)
          go_wp2
          go_ret
          exact ⟨ret_bool hne.out.symm, _, World.drewN_drewN _ _ _⟩
      · have hne : Hid ((l == l') = true) := by
          show _ = _
          have e := HT.out
          rw [List.take_of_length_le (by omega), List.take_of_length_le (by omega)] at e
          rw [e]; simp
        clear h h' hl hl' HT
        go_wp2
        go_ret
        exact ⟨ret_bool hne.out.symm, m, rfl⟩
  · have hf : (l == l') = false := by
      rw [beq_eq_false_iff_ne]; intro e; rw [e] at hl; omega
    have hb : ((n : Int) != (n' : Int)) = true := by rw [bne_iff_ne]; omega
    rw [hf]
    clear hl hl' hf
    go_enter Try.func28, Try.ntmps28
    go_wp2
    go_ret
    exact ⟨rfl, 0, rfl⟩
end Go.Proofs.Ytbmebioakmlliaa
