/- Layer 1 (hex): a byte's two digits; bytes as digits: the program's and the document's. -/
import Derived.Test.YtonblhannoinfaaHexA
import Derived.Test.YtonblhannoinfaaBuilder
import Derived.RegionTactic
import Derived.ChangeAlike
import Derived.StillTailTactics
import Derived.Outline
import Derived.Deep.RegionHeld3
import Derived.StillTactics
import Derived.IntWalk
namespace Go.Proofs.Ytonblhannoinfaa
open Go.RowKit
theorem idx_of : ∀ n : Fin 16, ((digs.data[n.val]?).map fun c => (c.toNat : Int)) = some (ofI n.val) := by decide +kernel
theorem run_digit (k : IntKind) (n : Int) (h0 : 0 ≤ n) (h1 : n < 16) (W : World) :
    (Instr.index 9 (.string ⟨#[48, 49, 50, 51, 52, 53, 54, 55, 56, 57, 97, 98, 99, 100, 101, 102]⟩) (.int k n)).run Try.prog W = .ok (.int .u8 (ofI n)) W := by
  rw [run_index_string W _ _ k n Try.underlying9]
  have hlt : n.toNat < 16 := by omega
  have h := idx_of ⟨n.toNat, hlt⟩
  rw [dif_pos ⟨h0, by show n < 16; exact h1⟩]
  have e : ((n.toNat : Nat) : Int) = n := Int.toNat_of_nonneg h0
  rw [e] at h
  have hs : n.toNat < digs.data.size := hlt
  rw [Array.getElem?_eq_getElem hs] at h
  simp only [Option.map_some, Option.some.injEq] at h
  rw [← h]
  rfl
theorem and15 (x : Int) (h0 : 0 ≤ x) (h1 : x < 256) : bits .and .u8 x 15 = x % 16 := by
  have : ∀ n : Fin 256, bits .and .u8 (n.val : Int) 15 = (n.val : Int) % 16 := by decide +kernel
  have h := this ⟨x.toNat, by omega⟩
  have e : ((x.toNat : Nat) : Int) = x := Int.toNat_of_nonneg h0
  simp only [e] at h
  exact h
set_option maxHeartbeats 400000 in
set_option maxRecDepth 10000 in
theorem pair_any (x : Int) (h0 : 0 ≤ x) (h1 : x < 256) (w : World) :
    Calls Try.prog 58 #[.int .u8 x] w fun e w' => e = .returned (.agg #[.int .u8 (ofI (x / 16)), .int .u8 (ofI (x % 16))]) ∧ Below w.heap.size w w' := by
  have hi := fun W => run_digit .u8 (x / 16) (by omega) (by omega) W
  have lo := fun W => run_digit .u8 (x % 16) (by omega) (by omega) W
  rw [← and15 x h0 h1] at lo
  go_enter Try.func58, Try.ntmps58
  go_wp2
  go_still_tail 7, (by kernel_rfl)
  change wpList _ _ _ _ _ (w.alloc _).drew
  go_wp2
  exact bodyPost_ret (v := .agg #[.int .u8 (ofI (x / 16)), .int .u8 (ofI (x % 16))]) (by simp [results, Try.results58, go_sem, and15 x h0 h1]) rfl
    ⟨rfl, ((Below.refl _ w).alloc (Nat.le_refl _) _).drew⟩
theorem cells_str {l : List Int} (h : B8 l) : ints .u8 l = Lib.byteCells (l.map fun n => UInt8.ofNat n.toNat) := by
  unfold ints Lib.byteCells
  rw [List.map_map]
  apply List.map_congr_left
  intro x hx
  have := h x hx
  simp only [Function.comp]
  rw [UInt8.toNat_ofNat_of_lt' (by show x.toNat < 256; omega), Int.toNat_of_nonneg (by omega)]
theorem putL_snoc (l : List Int) (k : Nat) (x : Int) (h : l[k]? = some x) : putL (l.take (k + 1)) = putL (l.take k) ++ [ofI (x / 16), ofI (x % 16)] := by
  rw [List.take_add_one, h, putL_append]
  rfl
theorem B8.take {l : List Int} (h : B8 l) (k : Nat) : B8 (l.take k) := fun x hx => h x (List.mem_of_mem_take hx)
set_option maxHeartbeats 1000000 in
set_option maxRecDepth 10000 in
theorem put_any (A : Option Addr) (n c B : Nat) (l : List Int) (w : World) (hn : n ≤ 100000000) (hB : B ≤ w.heap.size) (hl : B8 l) (h : Rd w B 1 A n (ints .u8 l)) :
    Calls Try.prog 25 #[.slice A n c] w fun e w' => e = .returned (.string (strOfNums (putL l))) ∧ Below w.heap.size w w' := by
  have hlen : l.length = n := by have := h.1; simpa [ints] using this
  have HLEN := Lib.hid hlen
  clear hlen
  generalize hg : w.heap.size = g at *
  have HG := Lib.hid hg
  have hI : Lib.IsBuilder 87 5 g g (ints .u8 (putL (l.take 0))) (w.alloc (.cells #[.pointer none, .slice none 0 0] 87)) := by rw [← hg]; exact Lib.fresh_isBuilder _ _ w
  have hb0 : Below g w (w.alloc (.cells #[.pointer none, .slice none 0 0] 87)) := (Below.refl _ w).alloc (by omega) _
  have hr0 := h.alloc (by omega) (.cells #[.pointer none, .slice none 0 0] 87)
  have HI := Lib.hid hI
  have HB0 := Lib.hid hb0
  clear hg hI hb0 h
  go_enter Try.func25, Try.ntmps25
  go_wp2
  rw [HG.out]
  go_loopw [9] (fun i wr => ∃ k : Nat, k ≤ n ∧ i = .int .i64 k ∧ Lib.IsBuilder 87 5 g g (ints .u8 (putL (l.take k))) wr ∧ Rd wr B 1 A n (ints .u8 l) ∧ Below g w wr) (fun i _ => n - (intOf i).toNat)
  case atStart => exact ⟨0, by omega, rfl, HI.out, hr0, HB0.out⟩
  case round =>
    obtain ⟨k, hk, rfl, hik, hrk, hbk⟩ := hrel
    clear hr0
    by_cases hlt : k < n
    · obtain ⟨bA, oA, u, rfl, _, hx0, hc⟩ := hrk.at_ hlt
      obtain ⟨x, hx1, rfl⟩ := ints_get hx0
      have hx := hl x (List.mem_of_getElem? hx1)
      have HX := Lib.hid (putL_snoc l k x hx1)
      have hlk : (putL (l.take k)).length = 2 * k := by rw [putL_length, List.length_take, HLEN.out]; omega
      have hgs := IsBuilder_lt hik
      go_wp2_with fail
      refine (pair_any x hx.1 hx.2 _).mono ?_
      rintro e w1 ⟨rfl, hb1⟩
      have hi1 := IsBuilder_keep hik hb1
      have hr1 := hrk.below hb1 (by omega)
      have hs1 := hb1.size
      have hi2 := IsBuilder_keep hi1 ((Below.refl _ w1).alloc (Nat.le_refl _) (.cells #[.int .u8 (ofI (x / 16)), .int .u8 (ofI (x % 16))] 88))
      have hn2 : Rd (w1.alloc (.cells #[.int .u8 (ofI (x / 16)), .int .u8 (ofI (x % 16))] 88)) (w1.heap.size + 1) 1 (some ⟨w1.heap.size, 0, none⟩) 2 (ints .u8 [ofI (x / 16), ofI (x % 16)]) := Rd.new w1 _ #[.int .u8 (ofI (x / 16)), .int .u8 (ofI (x % 16))] rfl
      have HB2 := Lib.hid ((hbk.trans (hb1.mono (by omega))).alloc (by omega) (.cells #[.int .u8 (ofI (x / 16)), .int .u8 (ofI (x % 16))] 88))
      have hr2 := hr1.alloc (by omega) (.cells #[.int .u8 (ofI (x / 16)), .int .u8 (ofI (x % 16))] 88)
      clear hi1 hr1 hb1 hik hrk hbk hc hx0
      go_wp2_with fail
      refine (builder_write g (w1.heap.size + 1) g 2 2 (some ⟨w1.heap.size, 0, none⟩) (putL (l.take k)) [ofI (x / 16), ofI (x % 16)] _ hi2 (by omega) (by simp; omega) hn2 (by rintro a ⟨⟩; simp; omega)).mono ?_
      rintro e w3 ⟨rfl, hi3, hb3⟩
      rw [← HX.out] at hi3
      have hr3 := hr2.below hb3 (by omega)
      have HB3 := Lib.hid (HB2.out.trans hb3)
      clear hi2 hn2 hr2 hb3
      go_wp2
      go_roundw
      case rel => exact ⟨k + 1, by omega, by go_num, .inr hi3, hr3, HB3.out⟩
      case measure => simp [intOf]; omega
    · have hkn : k = n := by omega
      have HK := Lib.hid hkn
      clear hkn
      have hB := putL_b8 (hl.take k)
      rw [cells_str hB] at hik
      have hs := hbk.size
      have hgs := IsBuilder_lt hik
      clear hB
      go_wp2_with fail
      refine (Try.Builder_String_any g g _ _ hik (by omega)).mono ?_
      rintro e w1 ⟨rfl, hb1⟩
      have HB := Lib.hid (hbk.trans hb1)
      clear hb1 hbk hik hrk
      go_wp2
      go_ret
      refine ⟨?_, HB.out⟩
      rw [HK.out, List.take_of_length_le (by rw [HLEN.out]; exact Nat.le_refl _)]
      rfl
set_option maxHeartbeats 400000 in
theorem of2_any (n : Int) (h0 : 0 ≤ n) (h1 : n < 16) (w : World) :
    Calls Try.prog 61 #[.int .i64 n] w fun e w' => e = .returned (.int .u8 (ofI n)) ∧ w = w' := by
  by_cases h : n < 10
  · go_enter Try.func61, Try.ntmps61
    go_wp2
    go_ret
    exact ⟨ret_int (by unfold ofI; rw [if_pos h]), rfl⟩
  · go_enter Try.func61, Try.ntmps61
    go_wp2
    go_ret
    exact ⟨ret_int (by unfold ofI; rw [if_neg (by omega)]), rfl⟩
set_option maxHeartbeats 1000000 in
set_option maxRecDepth 10000 in
theorem put2_any (A : Option Addr) (n c B : Nat) (l : List Int) (w : World) (hn : n ≤ 100000000) (hB : B ≤ w.heap.size) (hl : B8 l) (h : Rd w B 1 A n (ints .u8 l)) :
    Calls Try.prog 29 #[.slice A n c] w fun e w' => e = .returned (.string (strOfNums (putL l))) ∧ Below w.heap.size w w' := by
  have hlen : l.length = n := by have := h.1; simpa [ints] using this
  have HLEN := Lib.hid hlen
  clear hlen
  generalize hg : w.heap.size = g at *
  have HG := Lib.hid hg
  have hb0 : Below g w w := Below.refl _ w
  have ho0 : w.ownsRow g 5 1 (.slice none 0 0) (putL (l.take 0)).length (ints .u8 (putL (l.take 0))) := World.ownsRow_nil _ _ _ _
  have HB0 := Lib.hid hb0
  have HO0 := Lib.hid ho0
  obtain ⟨i0, hi0, hz0, hz1, hz2⟩ := info_parts info_u8
  clear hg hb0 ho0
  go_enter Try.func29, Try.ntmps29
  go_wp2
  go_loopw [3, 4] (fun v i wr => ∃ k : Nat, k ≤ n ∧ i = .int .i64 k ∧ wr.ownsRow g 5 1 v (putL (l.take k)).length (ints .u8 (putL (l.take k))) ∧ Rd wr B 1 A n (ints .u8 l) ∧ Below g w wr) (fun _ i _ => n - (intOf i).toNat)
  case atStart => exact ⟨0, by omega, rfl, HO0.out, h, HB0.out⟩
  case round =>
    obtain ⟨k, hk, rfl, hok, hrk, hbk⟩ := hrel
    clear h
    by_cases hlt : k < n
    · obtain ⟨bA, oA, u, rfl, hbA, hx0, hc⟩ := hrk.at_ hlt
      obtain ⟨x, hx1, rfl⟩ := ints_get hx0
      have hx := hl x (List.mem_of_getElem? hx1)
      have HX := Lib.hid (putL_snoc l k x hx1)
      have hlk : (putL (l.take k)).length = 2 * k := by rw [putL_length, List.length_take, HLEN.out]; omega
      have hgs := hbk.size
      rw [HG.out] at hgs
      have HBK := Lib.hid hbk
      have v0 : IntKind.i64.wrap x = x := IntWalk.i64_in _ (by omega)
      have p0 : (0 : Int) ≤ (k : Int) := by omega
      have d1 : 0 ≤ x / 16 := by omega
      have d2 : x / 16 < 16 := by omega
      have m1 : 0 ≤ x % 16 := by omega
      have m2 : x % 16 < 16 := by omega
      have d3 : IntKind.i64.wrap (x / 16) = x / 16 := IntWalk.i64_in _ (by omega)
      have m3 : IntKind.i64.wrap (x % 16) = x % 16 := IntWalk.i64_in _ (by omega)
      have d4 : x.tdiv 16 = x / 16 := Int.tdiv_eq_ediv_of_nonneg hx.1
      have m4 : x.tmod 16 = x % 16 := Int.tmod_eq_emod_of_nonneg hx.1
      have hne : some bA ≠ u3.ownBlock := by
        intro e
        have := hok.lt bA e.symm
        omega
      have hgw : g ≤ (wr.alloc (.cells #[.int .u8 (ofI (x / 16)), .int .u8 (ofI (x % 16))] 5)).drew.heap.size := by simp; omega
      have hfar : bA < wr.heap.size + 1 := by omega
      generalize hys : putL (l.take k) = ys at *
      have HYS := Lib.hid hys
      clear hbk hys
      have hkb : ys.length + 2 ≤ maxLen ∧ (ys.length + 2) * 1 ≤ 140737488355328 := by unfold maxLen; omega
      clear hlk
      go_wp2_with fail
      go_region_held3 (fun w' => w'.cell? ⟨bA, oA + k, none⟩ = some (.int .u8 x))
        (first
          | go_keep
          | (rw [hgrow.cell_far _ (by simpa using hfar) hne]; assumption))
        (first
          | (go_at_call 61; refine (of2_any _ (by assumption) (by assumption) _).mono ?_; rintro e w' ⟨rfl, rfl⟩)
          | (refine step_append_lies _ (by rfl) _ _ _ (by rfl) g 5 i0 _ 1 1 Try.underlying28 hi0 hz0 hz1 hz2 rfl (by omega) u3 ys.length (ints .u8 ys) (by rfl) ((hok.alloc _).drew)
               ⟨wr.heap.size, 0, none⟩ 2 2 [.int .u8 (ofI (x / 16)), .int .u8 (ofI (x % 16))] (by rfl) (by rfl) (World.news_of_block (cs := #[.int .u8 (ofI (x / 16)), .int .u8 (ofI (x % 16))]) (t := 5) (fr := (0, 0)) (heap_alloc_new wr _)) (by simp [Value.oneCell'])
               (by decide) hkb.1 hkb.2 hgw (wr.heap.size + 1) (by simp) ?_; intro gg cap w1 hown1 hgrow hat hlt1))
      have HB1 := Lib.hid (((HBK.out.alloc hgs (.cells #[.int .u8 (ofI (x / 16)), .int .u8 (ofI (x % 16))] 5)).drew).grown hgrow hgw (fun q hq => (hok.lt q hq).1))
      have HO := Lib.hid hown1
      have hrn := ((hrk.alloc (by omega) (.cells #[.int .u8 (ofI (x / 16)), .int .u8 (ofI (x % 16))] 5)).drew).grown hgrow (by omega) (fun q hq => by have := (hok.lt q hq).1; omega)
      have e2 : ys.length + 2 = (putL (l.take (k + 1))).length := by rw [HX.out]; simp
      have HE := Lib.hid e2
      clear hgrow hown1 hok hrk hc e2
      go_wp2
      refine ⟨⟨k + 1, by omega, by congr 1, ?_, hrn, HB1.out⟩, by simp [intOf]; omega⟩
      rw [← HE.out, HX.out, ints_append]
      exact HO.out
    · have hkn : k = n := by omega
      have HK := Lib.hid hkn
      obtain ⟨A3, c3, rfl⟩ := own_form hok
      have hr3 := Rd.of_own hok
      have hcv := conv_rd (c := c3) hr3
      have HBK := Lib.hid hbk
      clear hok hrk hbk hr3 hkn
      go_wp2
      go_ret
      refine ⟨?_, HBK.out⟩
      rw [HK.out, List.take_of_length_le (by rw [HLEN.out]; exact Nat.le_refl _)]
      rfl
end Go.Proofs.Ytonblhannoinfaa
