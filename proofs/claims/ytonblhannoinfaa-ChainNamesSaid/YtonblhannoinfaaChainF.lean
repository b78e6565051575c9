/- Layer 4 (chain): the statements' example. -/
import Derived.Test.YtonblhannoinfaaChainE
namespace Go.Proofs.Ytonblhannoinfaa
open Go.RowKit
def abcT : ByteArray := ⟨#[97, 98, 99]⟩
def abcK : ByteArray := ⟨#[97, 57, 57, 57, 51, 101, 51, 54, 52, 55, 48, 54, 56, 49, 54, 97, 98, 97, 51, 101, 50, 53, 55, 49, 55, 56, 53, 48, 99, 50, 54, 99, 57, 99, 100, 48, 100, 56, 57, 100]⟩
theorem abcK_list : abcK.toList = [97, 57, 57, 57, 51, 101, 51, 54, 52, 55, 48, 54, 56, 49, 54, 97, 98, 97, 51, 101, 50, 53, 55, 49, 55, 56, 53, 48, 99, 50, 54, 99, 57, 99, 100, 48, 100, 56, 57, 100] := by decide +kernel
theorem abc_next : nextS abcT = abcK := by decide +kernel
theorem abc_fit : fitsI (nextS abcK) abcK = true := by decide +kernel
theorem abc_fit2 : fitsI abcK (nextS abcK) = false := by decide +kernel
theorem keys_abc : keysL abcT 2 = [abcK, nextS abcK] := by
  show [nextS abcT, nextS (nextS abcT)] = _
  rw [abc_next]
/-- the cells of a list of texts that an own row holds -/
theorem own_cells {w : World} {base : Nat} {v : Value} {n : Nat} {l : List ByteArray} (h : w.ownsRow base 9 1 v n (strs l)) (hn : 0 < n) : ∃ g c, v = .slice (some ⟨g, 0, none⟩) n c ∧ g < w.heap.size ∧ base ≤ g ∧ ∀ (j : Nat) x, l[j]? = some x → w.cell? ⟨g, j, none⟩ = some (.string x) := by
  rcases h.2 with ⟨_, h0⟩ | ⟨g, cap, cur, rfl, hb, hh, _⟩
  · omega
  · refine ⟨g, cap, rfl, (Array.getElem?_eq_some_iff.1 hh).1, hb, fun j x hx => ?_⟩
    have := h.cells (g := g) rfl j (.string x) (by simp [strs, hx])
    rwa [add_mk, Nat.zero_add] at this
set_option maxHeartbeats 1000000 in
set_option maxRecDepth 10000 in
theorem chainAlive_any (w : World) : Calls Try.prog 40 #[] w fun e w' => e = .returned (.bool true) ∧ Below w.heap.size w w' := by
  have hnx := next_any abcT (by decide)
  rw [show nextErr abcT = 0 by decide +kernel, show nextO abcT = abcK by rw [← abc_next]; rfl] at hnx
  have HNX := Lib.hid hnx
  have hmk := fun W => make_ok abcT 2 W (by decide) (by omega)
  rw [show (2 : Int).toNat = 2 from rfl, keys_abc] at hmk
  have HMK := Lib.hid hmk
  have hf1 := fits_any (nextS abcK) abcK
  rw [abc_fit] at hf1
  have hf2 := fits_any abcK (nextS abcK)
  rw [abc_fit2] at hf2
  have HF1 := Lib.hid hf1
  have HF2 := Lib.hid hf2
  clear hnx hmk hf1 hf2
  go_enter Try.func40, Try.ntmps40
  go_wp2_with fail
  refine (HNX.out w).mono ?_
  rintro e w1 ⟨rfl, hb1⟩
  have HB1 := Lib.hid hb1
  clear hb1
  go_wp2_with fail
  refine (HMK.out w1).mono ?_
  rintro e w2 ⟨v, rfl, hown, hb2⟩
  obtain ⟨g, c, rfl, hg, -, hcells⟩ := own_cells hown (by omega)
  have HB2 := Lib.hid (HB1.out.trans (hb2.mono HB1.out.size))
  have c0 := hcells 0 _ rfl
  have c1 := hcells 1 _ rfl
  generalize nextS abcK = K2 at *
  have habc := abcK_list
  clear hown hb2 hcells
  go_wp2_with fail
  refine (HF1.out w2).mono ?_
  rintro e w3 ⟨rfl, hb3⟩
  have c13 : w3.cell? ⟨g, 1, none⟩ = some (.string K2) := (hb3.cell (p := ⟨g, 1, none⟩) hg).trans c1
  have HB3 := Lib.hid (HB2.out.trans (hb3.mono HB2.out.size))
  clear hb3 c0 c1
  go_wp2_with fail
  refine (HF2.out w3).mono ?_
  rintro e w4 ⟨rfl, hb4⟩
  have HB4 := Lib.hid (HB3.out.trans (hb4.mono HB3.out.size))
  clear hb4
  go_wp2
  go_ret
  exact ⟨rfl, HB4.out⟩
end Go.Proofs.Ytonblhannoinfaa
