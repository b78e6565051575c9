/- Part 11 of a proof laid in parts, one behind the other; no condition of its own. -/
import Derived.Test.YtnfokaecobddkaaGreatDoorZ10
import Derived.Test.YtnfokaecobddkaaGreatDoorZ01
import Derived.Test.YtnfokaecobddkaaGreatDoorZ05
set_option linter.all false
section
namespace Go.Proofs.YtnfokaecobddkaaGreatDoor
open Go.RowKit
set_option linter.unusedSimpArgs false
set_option linter.unusedVariables false
theorem given_any (s : ByteArray) (w : World) : Calls Tryz.prog 75 #[.string s] w fun e w' => e = .returned (.bool (givenB s)) ∧ w = w' := by
  have HG : Box (givenB s = ((s.toList == [104, 116, 116, 112, 58, 47, 47, 119, 119, 119, 46, 119, 51, 46, 111, 114, 103, 47, 88, 77, 76, 47, 49, 57, 57, 56, 47, 110, 97, 109, 101, 115, 112, 97, 99, 101]) || (s.toList == [104, 116, 116, 112, 58, 47, 47, 119, 119, 119, 46, 119, 51, 46, 111, 114, 103, 47, 50, 48, 48, 48, 47, 120, 109, 108, 110, 115, 47]))) := ⟨rfl⟩
  generalize givenB s = r at *
  go_enter Tryz.func75, Tryz.ntmps75
  go_wp2
  all_goals
    go_ret
    exact ⟨(ret_bool (by first | (rw [HG.out]; done) | (rw [HG.out]; simp_all; done))), rfl⟩
set_option maxRecDepth 10000 in
theorem space1_any (a : AttrL) (w : World) (hz : SzA 1000000000 a) : Calls Tryz.prog 73 (#[encA a] ++ #[]) w fun e w' => e = .returned (.bool (oddA a)) ∧ Below w.heap.size w w' := by
  have HX := Lib.hid ((Below.refl w.heap.size w).alloc (Nat.le_refl _) (.cells #[.string a.space, .string a.name, .string a.value] 80))
  have HG : Box (oddA a = (!nameI a.name || (a.space.toList.isEmpty && (a.name.toList == [120, 109, 108, 110, 115])) || (a.space.toList == [104, 116, 116, 112, 58, 47, 47, 119, 119, 119, 46, 119, 51, 46, 111, 114, 103, 47, 50, 48, 48, 48, 47, 120, 109, 108, 110, 115, 47]))) := ⟨rfl⟩
  have H1 := Lib.hid (fun W => name_any a.name W hz.2.1)
  generalize oddA a = r at *
  generalize nameI a.name = n1 at *
  unfold encA
  rw [Array.append_empty]
  go_enter Tryz.func73, Tryz.ntmps73
  cases n1
  all_goals
    go_wp2_with fail
    refine (H1.out _).mono ?_
    rintro e w1 ⟨rfl, rfl⟩
    go_wp2
    all_goals
      go_ret
      exact ⟨(ret_bool (by first | (rw [HG.out]; done) | (rw [HG.out]; simp_all; done))), HX.out⟩
set_option maxHeartbeats 4000000 in
set_option maxRecDepth 10000 in
theorem space2_any (n : NodeL) (A : Option Addr) (c B : Nat) (w : World) (hB : w.cell? ⟨B, 0, none⟩ = some (.func (.func 73) #[] #[])) (hr : RdA w w.heap.size A n.attrs) (hz : SzN 1000000000 n) :
    Calls Tryz.prog 74 (#[encN n A c] ++ #[.pointer (some ⟨B, 0, none⟩)]) w fun e w' => e = .returned (.bool (oddN n)) ∧ Below w.heap.size w w' := by
  have hBl := cell_lt hB
  have hne : B ≠ w.heap.size := by omega
  obtain ⟨W0, hW0⟩ : ∃ W0, W0 = w.alloc (.cells #[.int .u8 n.kind, .string n.space, .string n.name, .slice A n.attrs.length c, .string n.text, .int .i64 n.many] 69) := ⟨_, rfl⟩
  have hX0 : Below w.heap.size w W0 := by rw [hW0]; exact (Below.refl _ _).alloc (Nat.le_refl _) _
  have HX0 := Lib.hid hX0
  have HG : Box (oddN n = ((decide (n.kind = 1) && !nameI n.name) || givenB n.space || n.attrs.any oddA)) := ⟨rfl⟩
  have H1 := Lib.hid (fun W => name_any n.name W hz.2.2.1)
  have H2 := Lib.hid (fun W => given_any n.space W)
  have eg := enters_of (P := Tryz.prog) Tryz.func73 (by kernel_rfl) rfl
  have H3 := Lib.hid (hasA_any 73 #[] A c n.attrs oddA W0 ((hr.below hX0 (Nat.le_refl _)).more hX0.size) hz.2.2.2.1.1 eg
    (fun W i x hW hx => (space1_any x W (hz.2.2.2.1.2 x (List.mem_of_getElem? hx))).mono fun e w' h => ⟨h.1, hW.trans (h.2.mono hW.size)⟩))
  rw [hW0] at H3
  have HXF : ∀ w', Below W0.heap.size W0 w' → Below w.heap.size w w' := fun w' h => hX0.trans (h.mono hX0.size)
  rw [hW0] at HXF HX0
  have HXF' := Lib.hid HXF
  clear hW0 hX0 HXF eg hr
  generalize oddN n = r at *
  generalize nameI n.name = n1 at *
  generalize givenB n.space = g1 at *
  generalize n.attrs.any oddA = a1 at *
  unfold encN
  rw [List.append_toArray, List.singleton_append]
  by_cases hk : n.kind = 1
  all_goals
    try rw [hk] at H3 HX0 HXF'
    go_enter Tryz.func74, Tryz.ntmps74
    go_wp2_with (first
        | (go_at_call 26; refine (H1.out _).mono ?_; rintro e w1 ⟨rfl, rfl⟩)
        | (go_at_call 75; refine (H2.out _).mono ?_; rintro e w2 ⟨rfl, rfl⟩)
        | (go_at_call 76; refine (H3.out).mono ?_; rintro e w3 ⟨rfl, hb3⟩))
    all_goals
      go_ret
      first | exact ⟨(ret_bool (by first | (rw [HG.out]; done) | (rw [HG.out]; simp_all; done))), HX0.out⟩ | exact ⟨(ret_bool (by first | (rw [HG.out]; done) | (rw [HG.out]; simp_all; done))), HXF'.out _ hb3⟩
end Go.Proofs.YtnfokaecobddkaaGreatDoor
end
section
namespace Go.Proofs.YtnfokaecobddkaaGreatDoor
open Go.RowKit
set_option linter.unusedSimpArgs false
set_option linter.unusedVariables false
set_option maxHeartbeats 4000000 in
set_option maxRecDepth 10000 in
theorem spcheck_any (v : List NodeL) (A : Option Addr) (c : Nat) (w : World) (hc : v.length ≤ c) (hz : SzV 1000000000 v) (hr : RdV w w.heap.size A v) :
    Calls Tryz.prog 32 #[.slice A v.length c] w fun e w' => e = .returned (.int .i64 (spaceErr v)) ∧ Below w.heap.size w w' := by
  obtain ⟨W0, hW0⟩ : ∃ W0, W0 = w.alloc (.cells #[.func (.func 73) #[] #[]] 127) := ⟨_, rfl⟩
  have hX0 : Below w.heap.size w W0 := by rw [hW0]; exact (Below.refl _ _).alloc (Nat.le_refl _) _
  have hs0 : w.heap.size < W0.heap.size := by rw [hW0]; simp
  have hB : ∀ W, Below W0.heap.size W0 W → W.cell? ⟨w.heap.size, 0, none⟩ = some (.func (.func 73) #[] #[]) := fun W hW => (hW.cell hs0).trans (by rw [hW0]; simp)
  have eg := enters_of (P := Tryz.prog) Tryz.func74 (by kernel_rfl) rfl
  have hr0 := (hr.below hX0 (Nat.le_refl _)).more hX0.size
  have H := Lib.hid (hasN_any 74 #[.pointer (some ⟨w.heap.size, 0, none⟩)] A c v oddN W0 hr0 hz.1 eg
    (fun W i x A' c' hW hx hl hA => (space2_any x A' c' w.heap.size W (hB W hW) ((hA.below hW (Nat.le_refl _)).more hW.size) (hz.2 x (List.mem_of_getElem? hx))).mono fun e w' h => ⟨h.1, hW.trans (h.2.mono hW.size)⟩))
  have HT := Lib.hid (fun W (hW : Below W0.heap.size W0 W) => tcheck_any v A c W hc hz ((hr0.below hW (Nat.le_refl _)).more hW.size))
  have HX0 := Lib.hid hX0
  rw [hW0] at H HT HX0
  have HG : Box (spaceErr v = if v.any oddN then 8 else treeErr v) := ⟨by unfold spaceErr spaceI treeErr; cases v.any oddN <;> simp⟩
  clear hW0 hX0 hs0 hB eg hr0 hr hz hc
  generalize spaceErr v = r at *
  generalize treeErr v = te at *
  cases hq : v.any oddN
  all_goals
    rw [hq] at H HG
    go_enter Tryz.func32, Tryz.ntmps32
    go_wp2_with fail
    refine H.out.mono ?_
    rintro e w1 ⟨rfl, hb1⟩
    have X1 := Lib.hid hb1
    clear hb1
    go_wp2_with (first
        | (go_at_call 70; refine (HT.out _ X1.out).mono ?_; rintro e w1 ⟨rfl, hb2⟩))
    go_ret
    first | exact ⟨ret_int (by rw [HG.out]; rfl), HX0.out.trans (X1.out.mono HX0.out.size)⟩ | exact ⟨ret_int (by rw [HG.out]; rfl), (HX0.out.trans (X1.out.mono HX0.out.size)).trans (hb2.mono (Nat.le_trans HX0.out.size X1.out.size))⟩
end Go.Proofs.YtnfokaecobddkaaGreatDoor
end
section
namespace Go.Proofs.YtnfokaecobddkaaGreatDoor
open Go.RowKit
set_option linter.unusedSimpArgs false
set_option linter.unusedVariables false
end Go.Proofs.YtnfokaecobddkaaGreatDoor
end
section
namespace Go.Proofs.YtnfokaecobddkaaGreatDoor
open Go.RowKit
set_option linter.unusedSimpArgs false
set_option linter.unusedVariables false
end Go.Proofs.YtnfokaecobddkaaGreatDoor
end
