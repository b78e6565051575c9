/- The walks of the functions of layer 2 that only reckon, the program's and the document's: each answers as the plain functions here. No condition but that words are from 0 to 4294967295. -/
import Derived.Test.YtonblhannoinfaaMem
import Derived.Test.YtonblhannoinfaaPlainA
namespace Go.Proofs.Ytonblhannoinfaa
open Go.RowKit

theorem u64_tmod32 (n : Int) : (IntKind.u64.wrap n).tmod 32 = n % 32 := by
  simp [IntKind.wrap, IntKind.bits, IntKind.signed]
  rw [Int.tmod_eq_emod_of_nonneg (by omega)]
  omega
set_option maxHeartbeats 400000 in
theorem turn_any (x : Int) (n : Int) (w : World) :
    Calls Try.prog 53 #[.int .u32 x, .int .i64 n] w fun e w' => e = .returned (.int .u32 (turnI x n)) ∧ w = w' := by
  have h1 := u64_tmod32 n
  have h2 : 0 ≤ n % 32 := by omega
  have h3 : 0 ≤ 32 - n % 32 := by omega
  have h4 : IntKind.u64.wrap (32 - n % 32) = 32 - n % 32 := by simp [IntKind.wrap, IntKind.bits, IntKind.signed]; omega
  go_enter Try.func53, Try.ntmps53
  go_wp2
  go_ret
  exact ⟨rfl, rfl⟩

theorem choose_any (x y z : Int) (w : World) :
    Calls Try.prog 69 #[.int .u32 x, .int .u32 y, .int .u32 z] w fun e w' => e = .returned (.int .u32 (chooseI x y z)) ∧ w = w' := by
  go_enter Try.func69, Try.ntmps69
  go_wp2
  go_ret
  exact ⟨rfl, rfl⟩
theorem most_any (x y z : Int) (w : World) :
    Calls Try.prog 71 #[.int .u32 x, .int .u32 y, .int .u32 z] w fun e w' => e = .returned (.int .u32 (mostI x y z)) ∧ w = w' := by
  go_enter Try.func71, Try.ntmps71
  go_wp2
  go_ret
  exact ⟨rfl, rfl⟩

theorem sum1_any (x y : Int) (w : World) :
    Calls Try.prog 73 #[.int .u32 x, .int .u32 y] w fun e w' => e = .returned (.int .u32 (addI x y)) ∧ w = w' := by
  go_enter Try.func73, Try.ntmps73
  go_wp2
  go_ret
  exact ⟨rfl, rfl⟩
theorem odd1_any (x y : Int) (w : World) :
    Calls Try.prog 82 #[.int .u32 x, .int .u32 y] w fun e w' => e = .returned (.int .u32 (bits .xor .u32 x y)) ∧ w = w' := by
  go_enter Try.func82, Try.ntmps82
  go_wp2
  go_ret
  exact ⟨rfl, rfl⟩

set_option maxHeartbeats 400000 in
set_option maxRecDepth 10000 in
theorem fold_any (g : Int → Int → Int) (fid : FuncId) (hcall : ∀ args W, (callFunc fid args).run Try.prog W = .ok (.enter fid args) W) (hg : ∀ x y W, Calls Try.prog fid #[.int .u32 x, .int .u32 y] W fun e W' => e = .returned (.int .u32 (g x y)) ∧ W = W')
    (A : Option Addr) (n c B : Nat) (l : List Int) (w : World) (hn : n ≤ 9223372036854775807) (h : Rd w B 1 A n (ints .u32 l)) :
    Calls Try.prog 72 #[.slice A n c, .func (.func fid) #[] #[]] w fun e w' => e = .returned (.int .u32 (foldI g l)) ∧ w = w' := by
  have HG := Lib.hid hg
  clear hg
  go_enter Try.func72, Try.ntmps72
  go_wp2
  go_loop [4, 9] (fun x i => ∃ k : Nat, k ≤ n ∧ i = .int .i64 k ∧ x = .int .u32 (foldI g (l.take k))) (fun _ i => n - (intOf i).toNat)
  case atStart => exact ⟨0, by omega, rfl, rfl⟩
  case round =>
    obtain ⟨k, hk, rfl, rfl⟩ := hrel
    by_cases hlt : k < n
    · obtain ⟨bA, oA, u, rfl, _, hx0, hc⟩ := h.at_ hlt
      obtain ⟨x, hx, rfl⟩ := ints_get hx0
      have HX := Lib.hid (foldI_snoc g l k x hx)
      clear hx hx0 h
      generalize foldI g (l.take k) = s at *
      go_wp2_with fail
      refine (HG.out _ _ _).mono ?_
      rintro e w' ⟨rfl, rfl⟩
      go_wp2
      go_round
      case rel => exact ⟨k + 1, by omega, by go_num, by rw [HX.out]⟩
      case measure => simp [intOf]; omega
    · go_wp2
      go_ret
      have : l.length = n := by have := h.1; simpa [ints] using this
      refine ⟨?_, rfl⟩
      rw [List.take_of_length_le (by omega)]
      rfl
theorem call_sum1 (args : Array Value) (W : World) : (callFunc 73 args).run Try.prog W = .ok (.enter 73 args) W := by go_simp
theorem call_odd1 (args : Array Value) (W : World) : (callFunc 82 args).run Try.prog W = .ok (.enter 82 args) W := by go_simp
theorem sum_any (A : Option Addr) (n c B : Nat) (l : List Int) (w : World) (hn : n ≤ 9223372036854775807) (h : Rd w B 1 A n (ints .u32 l)) :
    Calls Try.prog 52 #[.slice A n c] w fun e w' => e = .returned (.int .u32 (sumI l)) ∧ w = w' := by
  go_enter Try.func52, Try.ntmps52
  go_wp2_with fail
  refine (fold_any addI _ call_sum1 sum1_any _ _ _ B l _ hn h).mono ?_
  rintro e w' ⟨rfl, rfl⟩
  go_wp2
  go_ret
  exact ⟨rfl, rfl⟩
theorem odd_any (x y z : Int) (w : World) :
    Calls Try.prog 70 #[.int .u32 x, .int .u32 y, .int .u32 z] w fun e w' => e = .returned (.int .u32 (oddI x y z)) ∧ Below w.heap.size w w' := by
  go_enter Try.func70, Try.ntmps70
  go_wp2_with fail
  refine (fold_any (bits .xor .u32) _ call_odd1 odd1_any _ _ _ _ [x, y, z] _ (by simp) (Rd.new w _ _ rfl)).mono ?_
  rintro e w' ⟨rfl, rfl⟩
  go_wp2
  go_ret
  exact ⟨rfl, (Below.refl _ _).alloc (Nat.le_refl _) _⟩

/-! ### The document's -/
theorem up_any (x : Int) (h0 : 0 ≤ x) (h1 : x < 4294967296) (w : World) :
    Calls Try.prog 83 #[.int .u32 x] w fun e w' => e = .returned (.int .u32 (upI x)) ∧ w = w' := by
  go_enter Try.func83, Try.ntmps83
  go_wp2
  go_ret
  exact ⟨rfl, rfl⟩
set_option maxHeartbeats 400000 in
set_option maxRecDepth 10000 in
theorem refturn_any (x n : Int) (h0 : 0 ≤ x) (h1 : x < 4294967296) (hn0 : -9223372036854775808 ≤ n) (hn1 : n ≤ 9223372036854775807) (w : World) :
    Calls Try.prog 75 #[.int .u32 x, .int .i64 n] w fun e w' => e = .returned (.int .u32 (ups x (n % 32).toNat)) ∧ w = w' := by
  have hcase : (n < 0 ∧ n.tmod 32 < 0 ∧ n.tmod 32 + 32 = n % 32) ∨ n.tmod 32 = n % 32 := by
    have := Int.tmod_eq_emod (a := n) (b := 32); split at this <;> omega
  have hd : n % 32 < 32 := by omega
  have hc : 0 ≤ n % 32 := by omega
  obtain ⟨m, hm⟩ := Int.eq_ofNat_of_zero_le hc
  have hm1 : (m : Int) < 32 := by omega
  have HM : Hid ((n % 32).toNat = m) := by show _ = _; omega
  clear hd hc
  rcases hcase with ⟨hneg, ha, hb⟩ | ha
  · rw [hm] at hb
    clear hm
    go_enter Try.func75, Try.ntmps75
    go_wp2
    go_loop [0, 5] (fun y i => ∃ k : Nat, k ≤ m ∧ i = .int .i64 k ∧ y = .int .u32 (ups x k)) (fun _ i => m - (intOf i).toNat)
    case atStart => exact ⟨0, by omega, rfl, rfl⟩
    case round =>
      obtain ⟨k, hk, rfl, rfl⟩ := hrel
      have hu := ups_bd x h0 h1 k
      have HX : Hid (ups x (k + 1) = upI (ups x k)) := rfl
      by_cases hlt : k < m
      · generalize ups x k = y at *
        go_wp2_with fail
        refine (up_any _ hu.1 hu.2 _).mono ?_
        rintro e w' ⟨rfl, rfl⟩
        go_wp2
        go_round
        case rel => exact ⟨k + 1, by omega, by go_num, by rw [HX.out]⟩
        case measure => simp [intOf]; omega
      · have hkm : k = m := by omega
        have HK := Lib.hid hkm
        clear hkm
        go_wp2
        go_ret
        exact ⟨ret_int (by rw [HM.out, HK.out]), rfl⟩
  · have ha' : n.tmod 32 = (m : Int) := by omega
    clear hm ha
    go_enter Try.func75, Try.ntmps75
    go_wp2
    go_loop [0, 5] (fun y i => ∃ k : Nat, k ≤ m ∧ i = .int .i64 k ∧ y = .int .u32 (ups x k)) (fun _ i => m - (intOf i).toNat)
    case atStart => exact ⟨0, by omega, rfl, rfl⟩
    case round =>
      obtain ⟨k, hk, rfl, rfl⟩ := hrel
      have hu := ups_bd x h0 h1 k
      have HX : Hid (ups x (k + 1) = upI (ups x k)) := rfl
      by_cases hlt : k < m
      · generalize ups x k = y at *
        go_wp2_with fail
        refine (up_any _ hu.1 hu.2 _).mono ?_
        rintro e w' ⟨rfl, rfl⟩
        go_wp2
        go_round
        case rel => exact ⟨k + 1, by omega, by go_num, by rw [HX.out]⟩
        case measure => simp [intOf]; omega
      · have hkm : k = m := by omega
        have HK := Lib.hid hkm
        clear hkm
        go_wp2
        go_ret
        exact ⟨ret_int (by rw [HM.out, HK.out]), rfl⟩
set_option maxHeartbeats 400000 in
set_option maxRecDepth 10000 in
theorem refsum_any (A : Option Addr) (n c B : Nat) (l : List Int) (hl : ∀ x ∈ l, 0 ≤ x ∧ x < 4294967296) (w : World) (hn : n ≤ 1000000000) (h : Rd w B 1 A n (ints .u32 l)) :
    Calls Try.prog 56 #[.slice A n c] w fun e w' => e = .returned (.int .u32 (sumI l)) ∧ w = w' := by
  have HL := Lib.hid hl
  clear hl
  go_enter Try.func56, Try.ntmps56
  go_wp2
  go_loop [3, 4] (fun x i => ∃ k : Nat, k ≤ n ∧ i = .int .i64 k ∧ x = .int .i64 (foldI addI (l.take k))) (fun _ i => n - (intOf i).toNat)
  case atStart => exact ⟨0, by omega, rfl, rfl⟩
  case round =>
    obtain ⟨k, hk, rfl, rfl⟩ := hrel
    have hb : 0 ≤ foldI addI (l.take k) ∧ foldI addI (l.take k) < 4294967296 := foldI_addI_bd _
    by_cases hlt : k < n
    · obtain ⟨bA, oA, u, rfl, _, hx0, hc⟩ := h.at_ hlt
      obtain ⟨x, hx, rfl⟩ := ints_get hx0
      have hxb := HL.out x (List.mem_of_getElem? hx)
      have HX := Lib.hid (foldI_snoc addI l k x hx)
      clear hx hx0 h
      generalize foldI addI (l.take k) = s at *
      go_wp2
      go_round
      case rel => exact ⟨k + 1, by omega, by go_num, by rw [HX.out]; rfl⟩
      case measure => simp [intOf]; omega
    · have : l.length = n := by have := h.1; simpa [ints] using this
      have hf : foldI addI (l.take k) = sumI l := by rw [List.take_of_length_le (by omega)]; rfl
      have HF := Lib.hid hf
      clear hf this
      generalize foldI addI (l.take k) = s at *
      go_wp2
      go_ret
      exact ⟨ret_int HF.out, rfl⟩

theorem refturn_eq (x n : Int) (hx : 0 ≤ x ∧ x < 4294967296) (hn : -9223372036854775808 ≤ n ∧ n ≤ 9223372036854775807) (w : World) :
    Calls Try.prog 75 #[.int .u32 x, .int .i64 n] w fun e w' => e = .returned (.int .u32 (turnI x n)) ∧ w = w' := by
  rw [turn_ups x hx n]
  exact refturn_any x n hx.1 hx.2 hn.1 hn.2 w
end Go.Proofs.Ytonblhannoinfaa
