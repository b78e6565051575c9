/- The walks of 'Of' and 'Bytes' of layer 2, the program's and the document's. -/
import Derived.Test.YtonblhannoinfaaWord
import Derived.Test.YtonblhannoinfaaPlainB
import Derived.Deep.RegionHeld3
import Derived.StillTactics
namespace Go.Proofs.Ytonblhannoinfaa
open Go.RowKit
set_option maxHeartbeats 400000 in
theorem of_many (A : Option Addr) (n c : Nat) (w : World) (hn : 16384 < n) :
    Calls Try.prog 39 #[.slice A n c] w fun e w' => e = .returned (.tuple #[.slice none 0 0, .int .i64 4]) ∧ w = w' := by
  have hn' : (16384 : Int) < (n : Int) := by omega
  go_enter Try.func39, Try.ntmps39
  go_wp2
  go_ret2
  exact ⟨rfl, rfl⟩
set_option maxHeartbeats 400000 in
theorem of_arg (A : Option Addr) (n c : Nat) (w : World) (hn : ¬ 16384 < n) (h4 : n % 4 ≠ 0) :
    Calls Try.prog 39 #[.slice A n c] w fun e w' => e = .returned (.tuple #[.slice none 0 0, .int .i64 2]) ∧ w = w' := by
  have hn' : (n : Int) ≤ 16384 := by omega
  have h4' : (0 : Int) < (n : Int) % 4 := by omega
  go_enter Try.func39, Try.ntmps39
  go_wp2
  go_ret2
  exact ⟨rfl, rfl⟩
theorem made_u32 (m : Nat) : madeCells #[Value.int .u32 0] m = ⟨ints .u32 (List.replicate m 0)⟩ := by
  apply Array.ext'
  simp [ints, toList_madeCells_one]
set_option maxHeartbeats 1000000 in
set_option maxRecDepth 10000 in
theorem of_ok (A : Option Addr) (n c m B : Nat) (l : List Int) (w : World) (hn : n ≤ 16384) (hnm : n = 4 * m) (hB : B ≤ w.heap.size) (hl : Bytes8 l) (h : Rd w B 1 A n (ints .u8 l)) :
    Calls Try.prog 39 #[.slice A n c] w fun e w' => ∃ v, e = .returned (.tuple #[v, .int .i64 0]) ∧ w'.ownsRow w.heap.size 22 1 v m (ints .u32 (wordsL l m)) ∧ Below w.heap.size w w' := by
  have hn' : (n : Int) ≤ 16384 := by omega
  have h4' : (n : Int) % 4 = 0 := by omega
  have h4 : (n : Int) / 4 = (m : Int) := by omega
  obtain ⟨i0, hi, hz0, hz1, hz2⟩ := info_parts info_u32
  have hmk : ∀ W : World, ∃ w', (Instr.makeSlice 54 (.int .i64 (m : Int)) (.int .i64 (m : Int))).run Try.prog W = .ok (.slice (some ⟨W.heap.size, 0, none⟩) m m) w' ∧
      w'.ownsRow W.heap.size 22 1 (.slice (some ⟨W.heap.size, 0, none⟩) m m) m (ints .u32 (List.replicate m 0)) ∧ W.grownBy w' none := fun W => by
    have := run_make_full (P := Try.prog) W W.heap.size 54 22 i0 (.int .u32 0) 1 Try.underlying54 hi hz0 hz1 .i64 .i64 m (by rw [hz2]; omega) (by unfold maxLen; omega) (Nat.le_refl _)
    have e : (madeCells (Value.int .u32 0).cells (m * 1)).toList = ints .u32 (List.replicate m 0) := by
      rw [Nat.mul_one]; exact congrArg Array.toList (made_u32 m)
    rwa [e] at this
  obtain ⟨w1, hrun, hown, hgr⟩ := hmk w
  clear hmk
  have hr1 : Rd w1 B 1 A n (ints .u8 l) := h.grown hgr hB (by simp)
  have hb1 : Below w.heap.size w w1 := (Below.refl _ w).grown hgr (Nat.le_refl _) (by simp)
  have HB := Lib.hid hb1
  rw [← outRow_zero l m] at hown
  clear hb1 hgr h
  go_enter Try.func39, Try.ntmps39
  go_wp2
  generalize hg : w.heap.size = g at *
  have HG := Lib.hid hg
  clear hg hrun
  go_loopw [22] (fun i wr => ∃ k : Nat, k ≤ n ∧ i = .int .i64 k ∧ wr.ownsRow g 22 1 (.slice (some ⟨g, 0, none⟩) m m) m (ints .u32 (outRow l m k)) ∧ Rd wr B 1 A n (ints .u8 l) ∧ Below g w wr) (fun i _ => n - (intOf i).toNat)
  case atStart => exact ⟨0, by omega, rfl, hown, hr1, HB.out⟩
  case round =>
    obtain ⟨k, hk, rfl, hok, hrk, hbk⟩ := hrel
    clear hown hr1
    by_cases hlt : k < n
    · obtain ⟨bA, oA, u, rfl, _, hx0, hc⟩ := hrk.at_ hlt
      obtain ⟨x, hx, rfl⟩ := ints_get hx0
      have hxb := hl x (List.mem_of_getElem? hx)
      have hbx := byteAt_get hx
      have hog := outRow_get l m k (by omega)
      have hpb := part_bd hl (k / 4) (k % 4) (by omega)
      have hcell : wr.cell? ⟨g, k / 4, none⟩ = some (.int .u32 (part l (k / 4) (k % 4))) := by
        rw [hok.cellAt (k / 4) (by omega)]
        simp [ints, hog]
      have hfr : wr.frozen? ⟨g, k / 4, none⟩ = false := hok.frozenAt _
      have hst := hok.stored (k / 4) (.int .u32 (part l (k / 4) (k % 4) * 256 + x))
      have he : (ints .u32 (outRow l m k)).set (k / 4) (.int .u32 (part l (k / 4) (k % 4) * 256 + x)) = ints .u32 (outRow l m (k + 1)) := by
        rw [← outRow_set l m k, hbx]; simp [ints, List.map_set]
      rw [he] at hst
      have HSH := Lib.hid (shl_or (part l (k / 4) (k % 4)) x hpb hxb)
      have HST := Lib.hid hst
      have HBK := Lib.hid hbk
      have HRK := Lib.hid hrk
      clear hst hbk hrk he hbx hog hx hx0 hok
      have hk4 : ((k : Int) / 4).toNat = k / 4 := by omega
      have hk5 : (k : Int) / 4 < (m : Int) := by omega
      have hk6 : (0 : Int) ≤ (k : Int) / 4 := by omega
      generalize part l (k / 4) (k % 4) = p at *
      go_wp2
      rw [HSH.out]
      exact ⟨⟨k + 1, by omega, by go_num, HST.out.1, HRK.out.setCell hB _, HBK.out.setCell (Nat.le_refl _) _⟩, by simp [intOf]; omega⟩
    · obtain rfl : k = n := by omega
      subst hnm
      have HOK := Lib.hid hok
      have HBK := Lib.hid hbk
      clear hok hbk hrk
      go_wp2
      go_ret2
      have hfin := HOK.out
      rw [outRow_end] at hfin
      refine ⟨_, rfl, ?_, ?_⟩
      · rw [HG.out]; exact hfin
      · rw [HG.out]; exact HBK.out

/-! ### The document's Of -/
set_option maxHeartbeats 400000 in
theorem refof_many (A : Option Addr) (n c : Nat) (w : World) (hn : 16384 < n) :
    Calls Try.prog 74 #[.slice A n c] w fun e w' => e = .returned (.tuple #[.slice none 0 0, .int .i64 4]) ∧ w = w' := by
  have hn' : (16384 : Int) < (n : Int) := by omega
  go_enter Try.func74, Try.ntmps74
  go_wp2
  go_ret2
  exact ⟨rfl, rfl⟩
set_option maxHeartbeats 400000 in
theorem refof_arg (A : Option Addr) (n c : Nat) (w : World) (hn : ¬ 16384 < n) (h4 : n % 4 ≠ 0) :
    Calls Try.prog 74 #[.slice A n c] w fun e w' => e = .returned (.tuple #[.slice none 0 0, .int .i64 2]) ∧ w = w' := by
  have hn' : (n : Int) ≤ 16384 := by omega
  have h4' : ((n : Int) % 4 != 0) = true := by rw [bne_iff_ne]; omega
  go_enter Try.func74, Try.ntmps74
  go_wp2
  go_ret2
  exact ⟨rfl, rfl⟩
set_option maxHeartbeats 1000000 in
set_option maxRecDepth 10000 in
theorem refof_ok (A : Option Addr) (n c m B : Nat) (l : List Int) (w : World) (hn : n ≤ 16384) (hnm : n = 4 * m) (hB : B ≤ w.heap.size) (hl : Bytes8 l) (h : Rd w B 1 A n (ints .u8 l)) :
    Calls Try.prog 74 #[.slice A n c] w fun e w' => ∃ v, e = .returned (.tuple #[v, .int .i64 0]) ∧ w'.ownsRow w.heap.size 22 1 v m (ints .u32 (wordsL l m)) ∧ Below w.heap.size w w' := by
  have hn' : (n : Int) ≤ 16384 := by omega
  have h4' : ((n : Int) % 4 != 0) = false := by rw [bne_eq_false_iff_eq]; omega
  have HNM := Lib.hid hnm
  have hle : 4 * m ≤ n := by omega
  clear hnm
  obtain ⟨i0, hi0, hz0, hz1, hz2⟩ := info_parts info_u32
  have h0 : w.ownsRow w.heap.size 22 1 (.slice none 0 0) 0 (ints .u32 (wordsL l 0)) := World.ownsRow_nil w _ _ _
  go_enter Try.func74, Try.ntmps74
  go_wp2
  generalize hg : w.heap.size = g at *
  have HG := Lib.hid hg
  clear hg
  go_loopw [4, 5] (fun v i wr => ∃ k : Nat, k ≤ m ∧ i = .int .i64 (4 * (k : Int)) ∧ wr.ownsRow g 22 1 v k (ints .u32 (wordsL l k)) ∧ Below g w wr) (fun _ i _ => n - (intOf i).toNat)
  case atStart => exact ⟨0, by omega, by simp, h0, Below.refl _ _⟩
  case round =>
    obtain ⟨k, hk, rfl, hok, hbk⟩ := hrel
    clear h0
    by_cases hlt : k < m
    · have hrk : Rd wr B 1 A n (ints .u8 l) := h.below hbk hB
      obtain ⟨bA, oA, u0, rfl, hadB, hx0, hc0⟩ := hrk.at_ (k := 4 * k) (by omega)
      obtain ⟨_, _, u1, e1, _, hx1, hc1⟩ := hrk.at_ (k := 4 * k + 1) (by omega)
      obtain ⟨_, _, u2, e2, _, hx2, hc2⟩ := hrk.at_ (k := 4 * k + 2) (by omega)
      obtain ⟨_, _, u3, e3, _, hx3, hc3⟩ := hrk.at_ (k := 4 * k + 3) (by omega)
      injection e1 with e1
      injection e1 with e1 f1
      injection e2 with e2
      injection e2 with e2 f2
      injection e3 with e3
      injection e3 with e3 f3
      subst e1 e2 e3 f1 f2 f3
      obtain ⟨x0, y0, rfl⟩ := ints_get hx0
      obtain ⟨x1, y1, rfl⟩ := ints_get hx1
      obtain ⟨x2, y2, rfl⟩ := ints_get hx2
      obtain ⟨x3, y3, rfl⟩ := ints_get hx3
      have b0 := hl x0 (List.mem_of_getElem? y0)
      have b1 := hl x1 (List.mem_of_getElem? y1)
      have b2 := hl x2 (List.mem_of_getElem? y2)
      have b3 := hl x3 (List.mem_of_getElem? y3)
      have HS : Hid (wordsL l (k + 1) = wordsL l k ++ [16777216 * x0 + 65536 * x1 + 256 * x2 + x3]) := by
        show _ = _
        rw [wordsL_succ]; unfold wordAt
        rw [byteAt_get y0, byteAt_get y1, byteAt_get y2, byteAt_get y3]
      clear hx0 hx1 hx2 hx3 y0 y1 y2 y3 hrk h
      have hsz : g ≤ wr.heap.size := by have h1 := hbk.size; have h2 := HG.out; omega
      have hadg : bA < g := by omega
      have HBK := Lib.hid hbk
      clear hbk
      generalize wordsL l k = ys at *
      have hi00 : (0 : Int) ≤ 4 * (k : Int) := by omega
      have hi01 : 4 * (k : Int) < (n : Int) := by omega
      have hi11 : 4 * (k : Int) + 1 < (n : Int) := by omega
      have hi21 : 4 * (k : Int) + 2 < (n : Int) := by omega
      have hi31 : 4 * (k : Int) + 3 < (n : Int) := by omega
      have t0 : (4 * (k : Int)).toNat = 4 * k := by omega
      have t1 : (4 * (k : Int) + 1).toNat = 4 * k + 1 := by omega
      have t2 : (4 * (k : Int) + 2).toNat = 4 * k + 2 := by omega
      have t3 : (4 * (k : Int) + 3).toNat = 4 * k + 3 := by omega
      have hne : some bA ≠ u4.ownBlock := by
        intro e
        have := hok.lt bA e.symm
        omega
      have s1 : IntKind.i64.wrap (4 * (k : Int) + 1) = 4 * (k : Int) + 1 := IntWalk.i64_in _ (by omega)
      have s2 : IntKind.i64.wrap (4 * (k : Int) + 2) = 4 * (k : Int) + 2 := IntWalk.i64_in _ (by omega)
      have s3 : IntKind.i64.wrap (4 * (k : Int) + 3) = 4 * (k : Int) + 3 := IntWalk.i64_in _ (by omega)
      have v0 : IntKind.i64.wrap x0 = x0 := IntWalk.i64_in _ (by omega)
      have v1 : IntKind.i64.wrap x1 = x1 := IntWalk.i64_in _ (by omega)
      have v2 : IntKind.i64.wrap x2 = x2 := IntWalk.i64_in _ (by omega)
      have v3 : IntKind.i64.wrap x3 = x3 := IntWalk.i64_in _ (by omega)
      have m0 : IntKind.i64.wrap (16777216 * x0) = 16777216 * x0 := IntWalk.i64_in _ (by omega)
      have m1 : IntKind.i64.wrap (65536 * x1) = 65536 * x1 := IntWalk.i64_in _ (by omega)
      have m2 : IntKind.i64.wrap (256 * x2) = 256 * x2 := IntWalk.i64_in _ (by omega)
      have a1 : IntKind.i64.wrap (16777216 * x0 + 65536 * x1) = 16777216 * x0 + 65536 * x1 := IntWalk.i64_in _ (by omega)
      have a2 : IntKind.i64.wrap (16777216 * x0 + 65536 * x1 + 256 * x2) = 16777216 * x0 + 65536 * x1 + 256 * x2 := IntWalk.i64_in _ (by omega)
      have a3 : IntKind.i64.wrap (16777216 * x0 + 65536 * x1 + 256 * x2 + x3) = 16777216 * x0 + 65536 * x1 + 256 * x2 + x3 := IntWalk.i64_in _ (by omega)
      have a4 : IntKind.u32.wrap (16777216 * x0 + 65536 * x1 + 256 * x2 + x3) = 16777216 * x0 + 65536 * x1 + 256 * x2 + x3 := by rw [IntKind.wrap_u32']; omega
      have p1 : (0 : Int) ≤ 4 * (k : Int) + 1 := by omega
      have p2 : (0 : Int) ≤ 4 * (k : Int) + 2 := by omega
      have p3 : (0 : Int) ≤ 4 * (k : Int) + 3 := by omega
      have hkb : k + 1 ≤ 9223372036854775807 ∧ (k + 1) * 4 ≤ 140737488355328 := by omega
      have hgw : g ≤ (wr.alloc (.cells #[.int .u32 (16777216 * x0 + 65536 * x1 + 256 * x2 + x3)] 22)).drew.heap.size := by simp; omega
      have hfar : bA < wr.heap.size + 1 := by omega
      go_wp2_with fail
      go_region_held3 (fun w' => w'.cell? ⟨bA, oA + 4 * k, none⟩ = some (.int .u8 x0) ∧ w'.cell? ⟨bA, oA + (4 * k + 1), none⟩ = some (.int .u8 x1) ∧ w'.cell? ⟨bA, oA + (4 * k + 2), none⟩ = some (.int .u8 x2) ∧ w'.cell? ⟨bA, oA + (4 * k + 3), none⟩ = some (.int .u8 x3))
        (first
          | go_keep
          | (go_split_ands
             refine ⟨?_, ?_, ?_, ?_⟩
             · (rw [hgrow.cell_far _ (by simpa using hfar) hne]; assumption)
             · (rw [hgrow.cell_far _ (by simpa using hfar) hne]; assumption)
             · (rw [hgrow.cell_far _ (by simpa using hfar) hne]; assumption)
             · (rw [hgrow.cell_far _ (by simpa using hfar) hne]; assumption)))
        ((refine step_append_lies _ (by rfl) _ _ _ (by rfl) g 22 i0 _ 1 4 Try.underlying54 hi0 hz0 hz1 hz2 rfl (by omega) u4 k (ints .u32 ys) (by rfl) ((hok.alloc _).drew)
            ⟨wr.heap.size, 0, none⟩ 1 1 [.int .u32 (16777216 * x0 + 65536 * x1 + 256 * x2 + x3)] (by rfl) (by rfl) (World.news_of_block (cs := #[.int .u32 (16777216 * x0 + 65536 * x1 + 256 * x2 + x3)]) (t := 22) (fr := (0, 0)) (heap_alloc_new wr _)) (by simp [Value.oneCell'])
            (by decide) hkb.1 hkb.2 hgw (wr.heap.size + 1) (by simp) ?_; intro gg cap w1 hown1 hgrow hat hlt1))
      have HB1 := Lib.hid (((HBK.out.alloc hsz (.cells #[.int .u32 (16777216 * x0 + 65536 * x1 + 256 * x2 + x3)] 22)).drew).grown hgrow hgw (fun q hq => (hok.lt q hq).1))
      have HO := Lib.hid hown1
      clear hgrow hown1 hok
      go_wp2
      refine ⟨⟨k + 1, by omega, by congr 1, ?_, HB1.out⟩, by simp [intOf]; omega⟩
      rw [HS.out, ints_append]
      exact HO.out
    · obtain rfl : k = m := by omega
      have hge : (n : Int) ≤ 4 * (k : Int) := by have := HNM.out; omega
      have HOK := Lib.hid hok
      have HBK := Lib.hid hbk
      clear hok hbk h
      go_wp2
      go_ret2
      refine ⟨_, rfl, ?_, ?_⟩
      · rw [HG.out]; exact HOK.out
      · rw [HG.out]; exact HBK.out

/-! ### Bytes -/
set_option maxHeartbeats 1000000 in
set_option maxRecDepth 10000 in
theorem bytes_any (A : Option Addr) (n c B : Nat) (l : List Int) (w : World) (hn : n ≤ 100000000) (hB : B ≤ w.heap.size) (hl : ∀ x ∈ l, 0 ≤ x ∧ x < 4294967296) (h : Rd w B 1 A n (ints .u32 l)) :
    Calls Try.prog 38 #[.slice A n c] w fun e w' => ∃ v, e = .returned v ∧ w'.ownsRow w.heap.size 5 1 v (4 * n) (ints .u8 (bytesL l)) ∧ Below w.heap.size w w' := by
  have hn' : (n : Int) ≤ 100000000 := by omega
  obtain ⟨i0, hi0, hz0, hz1, hz2⟩ := info_parts info_u8
  have h0 : w.ownsRow w.heap.size 5 1 (.slice none 0 0) (4 * 0) (ints .u8 (bytesL (l.take 0))) := World.ownsRow_nil w _ _ _
  go_enter Try.func38, Try.ntmps38
  go_wp2
  generalize hg : w.heap.size = g at *
  have HG := Lib.hid hg
  clear hg
  go_loopw [2, 8] (fun v i wr => ∃ k : Nat, k ≤ n ∧ i = .int .i64 (k : Int) ∧ wr.ownsRow g 5 1 v (4 * k) (ints .u8 (bytesL (l.take k))) ∧ Below g w wr) (fun _ i _ => n - (intOf i).toNat)
  case atStart => exact ⟨0, by omega, by simp, h0, Below.refl _ _⟩
  case round =>
    obtain ⟨k, hk, rfl, hok, hbk⟩ := hrel
    clear h0
    by_cases hlt : k < n
    · have hrk : Rd wr B 1 A n (ints .u32 l) := h.below hbk hB
      obtain ⟨bA, oA, u0, rfl, hadB, hx0, hc0⟩ := hrk.at_ (k := k) (by omega)
      obtain ⟨x, y0, rfl⟩ := ints_get hx0
      have b0 := hl x (List.mem_of_getElem? y0)
      have HS := Lib.hid (bytesL_snoc l k x y0)
      have hsz : g ≤ wr.heap.size := by have h1 := hbk.size; have h2 := HG.out; omega
      have HBK := Lib.hid hbk
      clear hx0 y0 hrk h hbk
      generalize bytesL (l.take k) = ys at *
      have hne : (ints .u8 ys) = ints .u8 (ys ++ (bytesI x).take 0) := by simp
      have hok0 : wr.ownsRow g 5 1 u2 (4 * k + 0) (ints .u8 (ys ++ (bytesI x).take 0)) := by rw [← hne]; exact hok
      have HK0 := Lib.hid hok0
      clear hne hok hok0
      obtain ⟨wo, rfl⟩ : ∃ wo : World, wo = wr := ⟨_, rfl⟩
      go_wp2
      go_loopw [2, 5, 12] (fun v _ i wq => ∃ j : Nat, j ≤ 4 ∧ i = .int .i64 (j : Int) ∧ wq.ownsRow g 5 1 v (4 * k + j) (ints .u8 (ys ++ (bytesI x).take j)) ∧ Below g w wq) (fun _ _ i _ => 4 - (intOf i).toNat)
      case atStart => exact ⟨0, by omega, by simp, HK0.out, HBK.out⟩
      case round =>
        obtain ⟨j, hj, rfl, hoj, hbj⟩ := hrel
        by_cases hj4 : j < 4
        · have HT := Lib.hid (bytesI_get x j hj4)
          have hsh : 0 ≤ 24 - 8 * (j : Int) := by omega
          have hcb : (4 * k + j) + 1 ≤ 1000000000 := by omega
          have hgs : g ≤ wr.heap.size := by have h1 := hbj.size; have h2 := HG.out; omega
          have hgw : g ≤ (wr.alloc (.cells #[.int .u8 (x / 2 ^ (24 - 8 * j) % 256)] 5)).heap.size := by simp; omega
          have HBJ := Lib.hid hbj
          clear hbj HK0 HBK
          go_wp2_with (at_builtin; refine app_u8s rfl _ _ rfl g _ _ _ rfl (hoj.alloc _) _ _ _ _ _ rfl (rd_int1 _ _ _ _) hcb hgw ?_)
          intro v' w1 hown1 hgr1 _
          have HB1 := Lib.hid ((HBJ.out.alloc hgs (.cells #[.int .u8 (x / 2 ^ (24 - 8 * j) % 256)] 5)).grown hgr1 hgw (fun q hq => ((hoj.alloc (.cells #[.int .u8 (x / 2 ^ (24 - 8 * j) % 256)] 5)).lt q hq).1))
          rw [← HT.out] at hown1
          have HO := Lib.hid hown1
          clear hown1 hgr1 hoj
          go_wp2
          exact ⟨⟨j + 1, by omega, by go_num, HO.out, HB1.out⟩, by simp [intOf]; omega⟩
        · obtain rfl : j = 4 := by omega
          have HO := Lib.hid hoj
          have HBJ := Lib.hid hbj
          clear hoj hbj HK0 HBK
          go_wp2
          refine ⟨⟨k + 1, by omega, by go_num, ?_, HBJ.out⟩, by simp [intOf]; omega⟩
          rw [HS.out]
          exact HO.out
    · obtain rfl : k = n := by omega
      have HOK := Lib.hid hok
      have HBK := Lib.hid hbk
      have hll : l.length = k := by have := h.1; simpa [ints] using this
      have HLL : Hid (l.take k = l) := by show _ = _; rw [List.take_of_length_le (by omega)]
      clear hok hbk h hll
      go_wp2
      go_ret
      refine ⟨_, rfl, ?_, ?_⟩
      · rw [HG.out]
        have := HOK.out
        rw [HLL.out] at this
        exact this
      · rw [HG.out]; exact HBK.out

set_option maxHeartbeats 1000000 in
set_option maxRecDepth 10000 in
theorem refbytes_any (A : Option Addr) (n c B : Nat) (l : List Int) (w : World) (hn : n ≤ 100000000) (hB : B ≤ w.heap.size) (hl : ∀ x ∈ l, 0 ≤ x ∧ x < 4294967296) (h : Rd w B 1 A n (ints .u32 l)) :
    Calls Try.prog 80 #[.slice A n c] w fun e w' => ∃ v, e = .returned v ∧ w'.ownsRow w.heap.size 5 1 v (4 * n) (ints .u8 (bytesL l)) ∧ Below w.heap.size w w' := by
  have hn' : (n : Int) ≤ 100000000 := by omega
  obtain ⟨i0, hi0, hz0, hz1, hz2⟩ := info_parts info_u8
  have h0 : w.ownsRow w.heap.size 5 1 (.slice none 0 0) (4 * 0) (ints .u8 (bytesL (l.take 0))) := World.ownsRow_nil w _ _ _
  go_enter Try.func80, Try.ntmps80
  go_wp2
  generalize hg : w.heap.size = g at *
  have HG := Lib.hid hg
  clear hg
  go_loopw [3, 4] (fun v i wr => ∃ k : Nat, k ≤ n ∧ i = .int .i64 (k : Int) ∧ wr.ownsRow g 5 1 v (4 * k) (ints .u8 (bytesL (l.take k))) ∧ Below g w wr) (fun _ i _ => n - (intOf i).toNat)
  case atStart => exact ⟨0, by omega, by simp, h0, Below.refl _ _⟩
  case round =>
    obtain ⟨k, hk, rfl, hok, hbk⟩ := hrel
    clear h0
    by_cases hlt : k < n
    · have hrk : Rd wr B 1 A n (ints .u32 l) := h.below hbk hB
      obtain ⟨bA, oA, u0, rfl, hadB, hx0, hc0⟩ := hrk.at_ (k := k) (by omega)
      obtain ⟨x, y0, rfl⟩ := ints_get hx0
      have b0 := hl x (List.mem_of_getElem? y0)
      have HS := Lib.hid (bytesL_snoc l k x y0)
      have hsz : g ≤ wr.heap.size := by have h1 := hbk.size; have h2 := HG.out; omega
      have HBK := Lib.hid hbk
      clear hx0 y0 hrk h hbk
      generalize bytesL (l.take k) = ys at *
      have HI : Hid ([x / 16777216, x / 65536 % 256, x / 256 % 256, x % 256] = bytesI x) := by
        show _ = _
        unfold bytesI
        rw [Int.emod_eq_of_lt (a := x / 16777216) (by omega) (by omega)]
      have hcb : 4 * k + 4 ≤ 1000000000 := by omega
      have hgw : g ≤ (wr.alloc (.cells #[.int .u8 (x / 16777216), .int .u8 (x / 65536 % 256), .int .u8 (x / 256 % 256), .int .u8 (x % 256)] 5)).heap.size := by simp; omega
      go_wp2_with (at_builtin; refine app_u8s rfl _ _ rfl g _ _ _ rfl (hok.alloc _) _ _ _ _ _ rfl (rd_int4 _ _ _ _ _ _ _) hcb hgw ?_)
      intro v' w1 hown1 hgr1 _
      have HB1 := Lib.hid ((HBK.out.alloc hsz (.cells #[.int .u8 (x / 16777216), .int .u8 (x / 65536 % 256), .int .u8 (x / 256 % 256), .int .u8 (x % 256)] 5)).grown hgr1 hgw (fun q hq => ((hok.alloc (.cells #[.int .u8 (x / 16777216), .int .u8 (x / 65536 % 256), .int .u8 (x / 256 % 256), .int .u8 (x % 256)] 5)).lt q hq).1))
      rw [HI.out, ← HS.out] at hown1
      have HO := Lib.hid hown1
      clear hown1 hgr1 hok
      go_wp2
      exact ⟨⟨k + 1, by omega, by go_num, HO.out, HB1.out⟩, by simp [intOf]; omega⟩
    · obtain rfl : k = n := by omega
      have HOK := Lib.hid hok
      have HBK := Lib.hid hbk
      have hll : l.length = k := by have := h.1; simpa [ints] using this
      have HLL : Hid (l.take k = l) := by show _ = _; rw [List.take_of_length_le (by omega)]
      clear hok hbk h hll
      go_wp2
      go_ret
      refine ⟨_, rfl, ?_, ?_⟩
      · rw [HG.out]
        have := HOK.out
        rw [HLL.out] at this
        exact this
      · rw [HG.out]; exact HBK.out

theorem of_all (A : Option Addr) (n c B : Nat) (l : List Int) (w : World) (hB : B ≤ w.heap.size) (hl : Bytes8 l) (h : Rd w B 1 A n (ints .u8 l)) :
    Calls Try.prog 39 #[.slice A n c] w fun e w' => ∃ A' c', e = .returned (.tuple #[.slice A' (ofWds l).length c', .int .i64 (ofErr n)]) ∧ Rd w' w'.heap.size 1 A' (ofWds l).length (ints .u32 (ofWds l)) ∧ Below w.heap.size w w' := by
  have hll : l.length = n := by have := h.1; simpa [ints] using this
  by_cases hm : 16384 < n
  · have e1 : ofWds l = [] := by unfold ofWds; rw [if_neg (by omega)]
    have e2 : ofErr n = 4 := by unfold ofErr; rw [if_pos hm]
    rw [e1, e2]
    refine (of_many A n c w hm).mono ?_
    rintro e w' ⟨rfl, rfl⟩
    exact ⟨_, _, rfl, Rd.none_, Below.refl _ _⟩
  · by_cases h4 : n % 4 = 0
    · obtain ⟨m, rfl⟩ : ∃ m, n = 4 * m := ⟨n / 4, by omega⟩
      have e1 : ofWds l = wordsL l m := by unfold ofWds; rw [if_pos (by omega), hll]; congr 1; omega
      have e2 : ofErr (4 * m) = 0 := by unfold ofErr; rw [if_neg hm, if_pos h4]
      rw [e1, e2, wordsL_length]
      refine (of_ok A (4 * m) c m B l w (by omega) rfl hB hl h).mono ?_
      rintro e w' ⟨v, rfl, hown, hb⟩
      obtain ⟨A', c', rfl⟩ := own_form hown
      exact ⟨_, _, rfl, Rd.of_own hown, hb⟩
    · have e1 : ofWds l = [] := by unfold ofWds; rw [if_neg (by omega)]
      have e2 : ofErr n = 2 := by unfold ofErr; rw [if_neg hm, if_neg h4]
      rw [e1, e2]
      refine (of_arg A n c w hm h4).mono ?_
      rintro e w' ⟨rfl, rfl⟩
      exact ⟨_, _, rfl, Rd.none_, Below.refl _ _⟩

theorem refof_all (A : Option Addr) (n c B : Nat) (l : List Int) (w : World) (hB : B ≤ w.heap.size) (hl : Bytes8 l) (h : Rd w B 1 A n (ints .u8 l)) :
    Calls Try.prog 74 #[.slice A n c] w fun e w' => ∃ A' c', e = .returned (.tuple #[.slice A' (ofWds l).length c', .int .i64 (ofErr n)]) ∧ Rd w' w'.heap.size 1 A' (ofWds l).length (ints .u32 (ofWds l)) ∧ Below w.heap.size w w' := by
  have hll : l.length = n := by have := h.1; simpa [ints] using this
  by_cases hm : 16384 < n
  · have e1 : ofWds l = [] := by unfold ofWds; rw [if_neg (by omega)]
    have e2 : ofErr n = 4 := by unfold ofErr; rw [if_pos hm]
    rw [e1, e2]
    refine (refof_many A n c w hm).mono ?_
    rintro e w' ⟨rfl, rfl⟩
    exact ⟨_, _, rfl, Rd.none_, Below.refl _ _⟩
  · by_cases h4 : n % 4 = 0
    · obtain ⟨m, rfl⟩ : ∃ m, n = 4 * m := ⟨n / 4, by omega⟩
      have e1 : ofWds l = wordsL l m := by unfold ofWds; rw [if_pos (by omega), hll]; congr 1; omega
      have e2 : ofErr (4 * m) = 0 := by unfold ofErr; rw [if_neg hm, if_pos h4]
      rw [e1, e2, wordsL_length]
      refine (refof_ok A (4 * m) c m B l w (by omega) rfl hB hl h).mono ?_
      rintro e w' ⟨v, rfl, hown, hb⟩
      obtain ⟨A', c', rfl⟩ := own_form hown
      exact ⟨_, _, rfl, Rd.of_own hown, hb⟩
    · have e1 : ofWds l = [] := by unfold ofWds; rw [if_neg (by omega)]
      have e2 : ofErr n = 2 := by unfold ofErr; rw [if_neg hm, if_neg h4]
      rw [e1, e2]
      refine (refof_arg A n c w hm h4).mono ?_
      rintro e w' ⟨rfl, rfl⟩
      exact ⟨_, _, rfl, Rd.none_, Below.refl _ _⟩
end Go.Proofs.Ytonblhannoinfaa
