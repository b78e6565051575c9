/- Layer 3 (sha): what stands behind a text: the program's and the document's; laws of append that these meet. -/
import Derived.Test.YtonblhannoinfaaArr
import Derived.Test.YtonblhannoinfaaHexB
import Derived.Lib.AppendZeros
import Derived.Lib.AppendZerosOnto
namespace Go.Proofs.Ytonblhannoinfaa
open Go.RowKit
theorem full_u8s (A : Option Addr) (m c : Nat) (hc : m ≤ c) : ∃ A', (∀ W, (Instr.slice 28 (.slice A m c) none (some (.int .i64 (m : Int))) (some (.int .i64 (m : Int)))).run Try.prog W = .ok (.slice A' m m) W) ∧
    ∀ W B xs, Rd W B 1 A m xs → Rd W B 1 A' m xs := by
  refine ⟨if m = 0 then A else A.map (·.add (0 * 1)), fun W => ?_, fun W B xs h => ?_⟩
  · rw [run_slice_hm W 28 A m c (by kernel_rfl) .i64 .i64 m m (by omega) (by omega) (by omega), size_u8s]
    rfl
  · refine ⟨h.1, fun h0 => ?_⟩
    obtain ⟨b, off, rfl, hb, hcell⟩ := h.2 h0
    rw [if_neg (by omega)]
    exact ⟨b, off, by simp [Addr.add], hb, hcell⟩
theorem zero_u8 (k : Nat) : Builtin.zeroCells (Value.int .u8 0).cells k = (ints .u8 (List.replicate k 0)).toArray := by
  apply Array.ext'
  simp [Builtin.zeroCells, Value.cells, ints, Nat.mod_one, List.map_const']
theorem own_new {w : World} {e : TypeId} {n cap : Nat} {xs zs : List Value} (hx : xs.length = n) (hn : n ≤ cap) (hm : cap ≤ maxLen) (hz : zs.length = cap - n) : (w.drew.alloc (.cells (xs ++ zs).toArray e)).ownsRow w.heap.size e 1 (.slice (some ⟨w.heap.size, 0, none⟩) n cap) n xs := by
  refine ⟨by omega, .inr ⟨w.heap.size, cap, _, rfl, Nat.le_refl _, heap_alloc_new w.drew _, hn, hm, by simp; omega, ?_⟩⟩
  simp only [Nat.mul_one]
  rw [← hx]
  exact List.take_left
theorem own_le {w : World} {base base' : Nat} {e : TypeId} {size n : Nat} {v : Value} {xs : List Value} (h : w.ownsRow base e size v n xs) (hb : base' ≤ base) : w.ownsRow base' e size v n xs :=
  ⟨h.1, h.2.imp id fun ⟨g, cap, cur, h1, h2, h3⟩ => ⟨g, cap, cur, h1, Nat.le_trans hb h2, h3⟩⟩
/-- 'append(s, make([]byte, k)...)' at a slice that is full -/
theorem app_zeros (w : World) (A : Option Addr) (n k B : Nat) (xs : List Int) (ty tn : TypeId) (kn : IntKind) (htn : Try.prog.underlying tn = some (.int kn)) (hr : Rd w B 1 A n (ints .u8 xs)) (h0 : 0 < k) (hA : 0 < n) (hs : n + k ≤ 1000000000) :
    ∃ v' w', (Builtin.append_ #[28, tn] ty #[.slice A n n, .int .i64 k]).run Try.prog w = .ok v' w' ∧ w'.ownsRow w.heap.size 5 1 v' (n + k) (ints .u8 (xs ++ List.replicate k 0)) ∧ Below w.heap.size w w' := by
  obtain ⟨i, hi, hz0, hz1, hz2⟩ := info_parts info_u8
  obtain ⟨b, off, rfl, _, hc⟩ := hr.2 hA
  have hl := hr.1
  have hold := run_firstCells_some (P := Try.prog) w.drew i.size n ⟨b, off, none⟩ n n (ints .u8 xs) (by rw [hz1]; exact hl) (fun j v hj => by rw [add_mk]; exact hc j v hj)
  have hrun := Lib.run_append_grow_zeros (P := Try.prog) w 28 tn ty 5 i (.int .u8 0) .i64 kn Try.underlying28 htn hi hz0 (some ⟨b, off, none⟩) n n (ints .u8 xs) hold k h0 (by omega) (by omega) (by omega) (by rw [hz2]; omega) (by rw [hz2]; exact growslice_fits (by omega) (by omega))
  have hge := grownCap_ge w (n + k) n 5
  have hcm := grownCap_le_maxLen w (n + k) n 5 (by unfold maxLen; omega)
  refine ⟨_, _, hrun, ?_, (Below.refl w.heap.size w).drew.alloc (Nat.le_refl _) _⟩
  rw [zero_u8, zero_u8]
  have e : (ints .u8 xs).toArray ++ (ints .u8 (List.replicate k 0)).toArray ++ (ints .u8 (List.replicate (grownCap w (n + k) n 5 - (n + k)) 0)).toArray = (ints .u8 (xs ++ List.replicate k 0) ++ ints .u8 (List.replicate (grownCap w (n + k) n 5 - (n + k)) 0)).toArray := by simp [ints]
  rw [e]
  exact own_new (by simp [ints] at hl ⊢; omega) hge hcm (by simp [ints])
set_option maxRecDepth 10000 in
/-- 'append(s, t...)' at a slice that is full, or nil -/
theorem app_full (w : World) (A : Option Addr) (n B : Nat) (xs : List Int) (A' : Option Addr) (m c B' : Nat) (ys : List Int) (ty : TypeId) (hr : Rd w B 1 A n (ints .u8 xs)) (hr' : Rd w B' 1 A' m (ints .u8 ys)) (h0 : 0 < m) (hs : n + m ≤ 1000000000) (hA : A = none → n = 0) :
    ∃ v' w', (Builtin.append_ #[28, 28] ty #[.slice A n n, .slice A' m c]).run Try.prog w = .ok v' w' ∧ w'.ownsRow w.heap.size 5 1 v' (n + m) (ints .u8 (xs ++ ys)) ∧ Below w.heap.size w w' := by
  obtain ⟨i, hi, hz0, hz1, hz2⟩ := info_parts info_u8
  obtain ⟨b', off', rfl, _, hc'⟩ := hr'.2 h0
  have hl := hr.1
  have hl' := hr'.1
  cases A with
  | none =>
    obtain rfl := hA rfl
    have hx : xs = [] := by simpa [ints] using hl
    subst hx
    obtain ⟨v', w', h1, h2, h3, _⟩ := run_append_own (P := Try.prog) w w.heap.size 28 ty 5 i (.int .u8 0) 1 1 Try.underlying28 hi hz0 hz1 hz2 rfl (by omega) (.slice none 0 0) 0 [] (World.ownsRow_nil _ _ _ _) ⟨b', off', none⟩ m c (ints .u8 ys) hl' (fun j v hj => by rw [add_mk]; exact hc' j v hj) ints_one (by unfold maxLen; omega) (by omega) (Nat.le_refl _)
    exact ⟨v', w', h1, by simpa using h2, (Below.refl _ w).grown h3 (Nat.le_refl _) (by simp [Value.ownBlock])⟩
  | some ad =>
    have holds : ∀ j v, (ints .u8 xs)[j]? = some v → w.cell? (ad.add j) = some v := by
      intro j v hj
      rcases Nat.eq_zero_or_pos n with hn | hn
      · subst hn
        have hx : xs = [] := by simpa [ints] using hl
        subst hx
        simp [ints] at hj
      · obtain ⟨b, off, e, _, hc⟩ := hr.2 hn
        injection e with e
        subst e
        rw [add_mk]
        exact hc j v hj
    have hrun := run_append_grow (P := Try.prog) w 28 ty 5 i (.int .u8 0) Try.underlying28 hi hz0 ad n n (ints .u8 xs) (by rw [hz1]; exact hl) holds ⟨b', off', none⟩ m c (ints .u8 ys) (by rw [hz1]; exact hl') (fun j v hj => by rw [add_mk]; exact hc' j v hj) (by omega) (by omega) (by rw [hz2]; exact growslice_fits (by omega) (by omega))
    have hge := grownCap_ge w (n + m) n 5
    have hcm := grownCap_le_maxLen w (n + m) n 5 (by unfold maxLen; omega)
    refine ⟨_, _, hrun, ?_, (Below.refl w.heap.size w).drew.alloc (Nat.le_refl _) _⟩
    rw [zero_u8]
    have e : (ints .u8 xs).toArray ++ (ints .u8 ys).toArray ++ (ints .u8 (List.replicate (grownCap w (n + m) n 5 - (n + m)) 0)).toArray = (ints .u8 (xs ++ ys) ++ ints .u8 (List.replicate (grownCap w (n + m) n 5 - (n + m)) 0)).toArray := by simp [ints]
    rw [e]
    exact own_new (by simp [ints] at hl hl' ⊢; omega) hge hcm (by simp [ints])
/-! ### pads -/
def padErr (n : Int) : Int := if 0 ≤ n ∧ n ≤ 16384 then 0 else 4
def padO (n : Int) : List Int := if 0 ≤ n ∧ n ≤ 16384 then padL n.toNat else []
def PadPost (n : Int) (w : World) (e : Ending) (w' : World) : Prop :=
  ∃ A c, e = .returned (.tuple #[.slice A (padO n).length c, .int .i64 (padErr n)]) ∧ Rd w' w'.heap.size 1 A (padO n).length (ints .u8 (padO n)) ∧ Below w.heap.size w w' ∧ (padO n).length ≤ c
theorem PadPost.no {n : Int} {w w' : World} (h : ¬ (0 ≤ n ∧ n ≤ 16384)) (hb : Below w.heap.size w w') : PadPost n w (.returned (.tuple #[.slice none 0 0, .int .i64 4])) w' := by
  have h1 : padErr n = 4 := by unfold padErr; rw [if_neg h]
  have h2 : padO n = [] := by unfold padO; rw [if_neg h]
  exact ⟨none, 0, by rw [h1, h2]; rfl, by rw [h2]; exact Rd.none_, hb, by rw [h2]; exact Nat.le_refl _⟩
theorem PadPost.yes {n : Int} {w w' : World} {v : Value} {m base : Nat} (h : 0 ≤ n ∧ n ≤ 16384) (hm : (padL n.toNat).length = m) (ho : w'.ownsRow base 5 1 v m (ints .u8 (padL n.toNat))) (hb : Below w.heap.size w w') : PadPost n w (.returned (.tuple #[v, .int .i64 0])) w' := by
  have h1 : padErr n = 0 := by unfold padErr; rw [if_pos h]
  have h2 : padO n = padL n.toNat := by unfold padO; rw [if_pos h]
  subst hm
  obtain ⟨A, c, rfl, hc⟩ : ∃ A c, v = .slice A (padL n.toNat).length c ∧ (padL n.toNat).length ≤ c := by
    rcases ho.2 with ⟨rfl, h0⟩ | ⟨g, cap, cur, rfl, _, _, hc, _⟩
    · exact ⟨none, 0, by rw [h0], by omega⟩
    · exact ⟨_, _, rfl, hc⟩
  exact ⟨A, c, by rw [h1, h2], by rw [h2]; exact Rd.of_own ho, hb, by rw [h2]; exact hc⟩
set_option maxHeartbeats 1000000 in
set_option maxRecDepth 10000 in
theorem pad_any (n : Int) (w : World) (hn0 : -9223372036854775808 ≤ n) (hn1 : n ≤ 9223372036854775807) :
    Calls Try.prog 33 #[.int .i64 n] w (PadPost n w) := by
  by_cases h1 : n < 0
  · go_enter Try.func33, Try.ntmps33
    go_wp2
    go_ret2
    exact PadPost.no (by omega) (Below.refl _ _)
  · by_cases h2 : 16384 < n
    · go_enter Try.func33, Try.ntmps33
      go_wp2
      go_ret2
      exact PadPost.no (by omega) (Below.refl _ _)
    · obtain ⟨k, hk⟩ : ∃ k : Nat, k = (119 - n.toNat % 64) % 64 := ⟨_, rfl⟩
      have hki : (119 - n % 64) % 64 = (k : Int) := by omega
      have hk64 : k < 64 := by omega
      have hr0 : Rd (w.alloc (.cells #[.int .u8 128] 5)) (w.heap.size + 1) 1 (some ⟨w.heap.size, 0, none⟩) 1 (ints .u8 [128]) := rd_int1 w _ _ _
      have hzz : ∃ v' w', (Builtin.append_ #[28, 3] 28 #[.slice (some ⟨w.heap.size, 0, none⟩) 1 1, .int .i64 (k : Int)]).run Try.prog (w.alloc (.cells #[.int .u8 128] 5)) = .ok v' w' ∧
          w'.ownsRow w.heap.size 5 1 v' (1 + k) (ints .u8 (128 :: List.replicate k 0)) ∧ Below w.heap.size w w' := by
        rcases Nat.eq_zero_or_pos k with h0 | h0
        · subst h0
          refine ⟨.slice (some ⟨w.heap.size, 0, none⟩) 1 1, w.alloc (.cells #[.int .u8 128] 5), ?_, ?_, (Below.refl _ w).alloc (Nat.le_refl _) _⟩
          · obtain ⟨i, hi, hz0, hz1, hz2⟩ := info_parts info_u8
            simp [Builtin.append_, run_underlying Try.underlying28, run_underlying Try.underlying3, sizeOf, typeInfo, hi, asInt, asIntOf, IntKind.wrap_i64, hz2, storeCells]
          · exact World.ownsRow_lit w #[.int .u8 128] 1 (Nat.le_refl _) (by unfold maxLen; omega) rfl
        · obtain ⟨v', w', h1, h2, h3⟩ := app_zeros (w.alloc (.cells #[.int .u8 128] 5)) _ 1 k _ [128] 28 3 .i64 Try.underlying3 hr0 h0 (by omega) (by omega)
          exact ⟨v', w', h1, own_le h2 (by simp), ((Below.refl _ w).alloc (Nat.le_refl _) _).trans (h3.mono (by simp))⟩
      obtain ⟨v1, w1, hrun, hown, hb1⟩ := hzz
      have hlist : padL n.toNat = (128 :: List.replicate k 0) ++ bytesL [0, 8 * n] := by
        unfold padL
        rw [← hk, Int.toNat_of_nonneg (by omega)]
        rfl
      have hl8 : ∀ x ∈ [0, 8 * n], 0 ≤ x ∧ x < 4294967296 := by intro x hx; simp at hx; omega
      have HL := Lib.hid hlist
      have HL8 := Lib.hid hl8
      have HB1 := Lib.hid hb1
      have HO := Lib.hid hown
      rw [← hki] at hrun
      have HRUN := Lib.hid hrun
      have hs1 := hb1.size
      have hm8 : (8 * n) % 4294967296 = 8 * n := by omega
      have HM8 := Lib.hid hm8
      clear hk hr0 hrun hown hb1 hlist hl8 hm8 hki
      go_enter Try.func33, Try.ntmps33
      go_wp2_with (at_builtin; refine Lib.wpList_append_run _ rfl _ _ _ _ rfl _ _ rfl rfl _ _ HRUN.out ?_)
      refine (bytes_any _ 2 2 (w1.heap.size + 1) [0, 8 * n] _ (by omega) (by simp) HL8.out (by have := Rd.new w1 22 #[.int .u32 0, .int .u32 (8 * n)] (s := 1) (n := 2) rfl; simpa [ints] using this)).mono ?_
      rintro e w2 ⟨v2, rfl, hown2, hb2⟩
      obtain ⟨A2, c2, rfl⟩ := own_form hown2
      have hr2 := Rd.of_own hown2
      have hl2 : (bytesL [0, 8 * n]).length = 8 := by rw [bytesL_length]; rfl
      have ho1 : w2.ownsRow w.heap.size 5 1 v1 (1 + k) (ints .u8 (128 :: List.replicate k 0)) := own_keep (HO.out.alloc (.cells #[.int .u32 0, .int .u32 (8 * n)] 22)) hb2
      have HB2 : Hid (Below w.heap.size w w2) := (HB1.out.alloc hs1 (.cells #[.int .u32 0, .int .u32 (8 * n)] 22)).trans (hb2.mono (by simp; omega))
      have hs2 := HB2.out.size
      have hlen : (padL n.toNat).length = 1 + k + 8 := by rw [HL.out, List.length_append, hl2]; simp; omega
      have HLEN := Lib.hid hlen
      have HL2 := Lib.hid hl2
      clear hown2 hb2 hlen hl2
      go_wp2_with (at_builtin; refine app_u8s rfl _ _ rfl w.heap.size v1 (1 + k) _ rfl ho1 _ A2 8 c2 _ rfl hr2 (by omega) hs2 ?_)
      intro v3 w3 hown3 hg3 _
      rw [show 128 :: (List.replicate k 0 ++ bytesL [0, 8 * n]) = padL n.toNat by rw [HL.out]; rfl] at hown3
      have HB3 : Hid (Below w.heap.size w w3) := HB2.out.grown hg3 hs2 (fun q hq => (ho1.lt q hq).1)
      have HO3 := Lib.hid hown3
      clear hown3 hg3 ho1 hr2
      go_wp2
      go_ret2
      exact PadPost.yes ⟨by omega, by omega⟩ HLEN.out HO3.out HB3.out
/-! the document's -/
def lenV : Value → Nat
  | .slice _ m _ => m
  | _ => 0
set_option maxHeartbeats 1000000 in
set_option maxRecDepth 10000 in
theorem reftail_any (n : Int) (w : World) (hn : 0 ≤ n ∧ n ≤ 17000) :
    Calls Try.prog 63 #[.int .i64 n] w fun e w' => ∃ v, e = .returned v ∧ w'.ownsRow w.heap.size 5 1 v (padL n.toNat).length (ints .u8 (padL n.toNat)) ∧ Below w.heap.size w w' := by
  obtain ⟨k, hk⟩ : ∃ k : Nat, k = (119 - n.toNat % 64) % 64 := ⟨_, rfl⟩
  have hk64 : k < 64 := by omega
  have hkn : (n + (1 + (k : Int)) + 8) % 64 = 0 := by omega
  have hkj : ∀ j : Nat, j < k → (n + (1 + (j : Int)) + 8) % 64 ≠ 0 := by intro j hj; omega
  have hlist : padL n.toNat = (128 :: List.replicate k 0) ++ [0, 0, 0, 0, 0, 8 * n / 65536, 8 * n / 256 % 256, 8 * n % 256] := by
    unfold padL bytesL bytesI
    rw [← hk, Int.toNat_of_nonneg (by omega)]
    simp
    omega
  have HKN := Lib.hid hkn
  have HKJ := Lib.hid hkj
  have HL := Lib.hid hlist
  have hr0 : (w.alloc (.cells #[.int .u8 128] 5)).ownsRow w.heap.size 5 1 (.slice (some ⟨w.heap.size, 0, none⟩) 1 1) (1 + 0) (ints .u8 (128 :: List.replicate 0 0)) := World.ownsRow_lit w #[.int .u8 128] 1 (Nat.le_refl _) (by unfold maxLen; omega) rfl
  have hb0 : Below w.heap.size w (w.alloc (.cells #[.int .u8 128] 5)) := (Below.refl _ w).alloc (Nat.le_refl _) _
  have HO0 := Lib.hid hr0
  have HB0 := Lib.hid hb0
  clear hk hkn hkj hlist hr0 hb0
  go_enter Try.func63, Try.ntmps63
  go_wp2
  go_loopw [3] (fun v wr => ∃ (j : Nat) (A : Option Addr) (c : Nat), j ≤ k ∧ v = .slice A (1 + j) c ∧ wr.ownsRow w.heap.size 5 1 (.slice A (1 + j) c) (1 + j) (ints .u8 (128 :: List.replicate j 0)) ∧ Below w.heap.size w wr) (fun v _ => 70 - lenV v)
  case atStart => exact ⟨0, _, _, by omega, rfl, HO0.out, HB0.out⟩
  case round =>
    obtain ⟨j, A, c, hj, rfl, hown, hb⟩ := hrel
    have HO := Lib.hid hown
    have HB := Lib.hid hb
    have hs := hb.size
    clear hown hb
    by_cases hlt : j < k
    · have hne : ((n + (1 + (j : Int)) + 8) % 64 != 0) = true := by rw [bne_iff_ne]; exact HKJ.out j hlt
      have ho := HO.out
      have hrn : Rd (wr.alloc (.cells #[.int .u8 0] 5)) (wr.heap.size + 1) 1 (some ⟨wr.heap.size, 0, none⟩) 1 (ints .u8 [0]) := rd_int1 wr _ _ _
      go_wp2_with (at_builtin; refine app_u8s rfl _ _ rfl w.heap.size _ (1 + j) _ rfl (ho.alloc _) _ _ _ _ _ rfl hrn (by omega) (by simp; omega) ?_)
      intro v' w1 hown1 hg _
      obtain ⟨A1, c1, rfl⟩ := own_form hown1
      have HO1 := Lib.hid hown1
      have HB1 : Hid (Below w.heap.size w w1) := (HB.out.alloc hs (.cells #[.int .u8 0] 5)).grown hg (by simp; omega) (fun q hq => (HO.out.lt q hq).1)
      clear hown1 hg ho hrn hne
      go_wp2
      go_roundw
      case rel =>
        refine ⟨j + 1, A1, c1, by omega, rfl, ?_, HB1.out⟩
        have := HO1.out
        rw [show 128 :: List.replicate (j + 1) (0 : Int) = (128 :: List.replicate j 0) ++ [0] by rw [List.replicate_succ']; rfl]
        exact this
      case measure => simp [lenV]; omega
    · obtain rfl : j = k := by omega
      have hne : ((n + (1 + (j : Int)) + 8) % 64 != 0) = false := by rw [HKN.out]; rfl
      have ho := HO.out
      have hrn : Rd (wr.alloc (.cells #[.int .u8 0, .int .u8 0, .int .u8 0, .int .u8 0, .int .u8 0, .int .u8 (8 * n / 65536), .int .u8 (8 * n / 256 % 256), .int .u8 (8 * n % 256)] 5)) (wr.heap.size + 1) 1 (some ⟨wr.heap.size, 0, none⟩) 8 (ints .u8 [0, 0, 0, 0, 0, 8 * n / 65536, 8 * n / 256 % 256, 8 * n % 256]) :=
        Rd.new wr _ #[.int .u8 0, .int .u8 0, .int .u8 0, .int .u8 0, .int .u8 0, .int .u8 (8 * n / 65536), .int .u8 (8 * n / 256 % 256), .int .u8 (8 * n % 256)] rfl
      have hlen : (padL n.toNat).length = 1 + j + 8 := by rw [HL.out]; simp; omega
      have HLEN := Lib.hid hlen
      clear hlen
      go_wp2_with (at_builtin; refine app_u8s rfl _ _ rfl w.heap.size _ (1 + j) _ rfl (ho.alloc _) _ _ _ _ _ rfl hrn (by omega) (by simp; omega) ?_)
      intro v' w1 hown1 hg _
      rw [show 128 :: (List.replicate j 0 ++ [0, 0, 0, 0, 0, 8 * n / 65536, 8 * n / 256 % 256, 8 * n % 256]) = padL n.toNat by rw [HL.out]; rfl] at hown1
      have HO1 := Lib.hid hown1
      have HB1 : Hid (Below w.heap.size w w1) := (HB.out.alloc hs (.cells #[.int .u8 0, .int .u8 0, .int .u8 0, .int .u8 0, .int .u8 0, .int .u8 (8 * n / 65536), .int .u8 (8 * n / 256 % 256), .int .u8 (8 * n % 256)] 5)).grown hg (by simp; omega) (fun q hq => (HO.out.lt q hq).1)
      clear hown1 hg ho hrn hne
      go_wp2
      go_ret
      exact ⟨_, rfl, by rw [HLEN.out]; exact HO1.out, HB1.out⟩
set_option maxHeartbeats 400000 in
theorem refpad_any (n : Int) (w : World) (hn0 : -9223372036854775808 ≤ n) (hn1 : n ≤ 9223372036854775807) :
    Calls Try.prog 34 #[.int .i64 n] w (PadPost n w) := by
  by_cases h1 : n < 0
  · go_enter Try.func34, Try.ntmps34
    go_wp2
    go_ret2
    exact PadPost.no (by omega) (Below.refl _ _)
  · by_cases h2 : 16384 < n
    · go_enter Try.func34, Try.ntmps34
      go_wp2
      go_ret2
      exact PadPost.no (by omega) (Below.refl _ _)
    · go_enter Try.func34, Try.ntmps34
      go_wp2_with fail
      refine (reftail_any n w ⟨by omega, by omega⟩).mono ?_
      rintro e w1 ⟨v, rfl, hown, hb⟩
      have HO := Lib.hid hown
      have HB := Lib.hid hb
      clear hown hb
      go_wp2
      go_ret2
      exact PadPost.yes ⟨by omega, by omega⟩ rfl HO.out HB.out
end Go.Proofs.Ytonblhannoinfaa
