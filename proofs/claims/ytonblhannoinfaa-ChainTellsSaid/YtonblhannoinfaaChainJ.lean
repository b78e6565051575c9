/- Layer 4 (chain): two equal lists of texts. -/
import Derived.Test.YtonblhannoinfaaChainI
namespace Go.Proofs.Ytonblhannoinfaa
open Go.RowKit
set_option maxHeartbeats 1000000 in
set_option maxRecDepth 10000 in
theorem same_eq (A A' : Option Addr) (n c c' : Nat) (l : List ByteArray) (w : World) (hr : Rd w w.heap.size 1 A n (strs l)) (hr' : Rd w w.heap.size 1 A' n (strs l)) (hn : n ≤ 1000) :
    Calls Try.prog 47 #[.slice A n c, .slice A' n c'] w fun e w' => e = .returned (.bool true) ∧ Below w.heap.size w w' := by
  have HR := Lib.hid hr
  have HR' := Lib.hid hr'
  clear hr hr'
  go_enter Try.func47, Try.ntmps47
  go_wp2
  go_loopw [5] (fun i wr => ∃ k : Nat, k ≤ n ∧ i = .int .i64 (k : Int) ∧ Below w.heap.size w wr) (fun i _ => n - (intOf i).toNat)
  case atStart => exact ⟨0, by omega, rfl, Below.refl _ _⟩
  case round =>
    obtain ⟨k, hk, rfl, hbk⟩ := hrel
    have HB := Lib.hid hbk
    have hsk := hbk.size
    by_cases hlt : k < n
    · obtain ⟨b, off, u, rfl, hb, hu, hc⟩ := (HR.out.below hbk (Nat.le_refl _)).at_ hlt
      obtain ⟨b', off', u', rfl, hb', hu', hc'⟩ := (HR'.out.below hbk (Nat.le_refl _)).at_ hlt
      rw [hu] at hu'
      injection hu' with hu'
      subst hu'
      obtain ⟨x, rfl⟩ : ∃ x, u = .string x := by
        simp [strs] at hu
        obtain ⟨x, _, rfl⟩ := hu
        exact ⟨x, rfl⟩
      have hlt' : (k : Int) < (n : Int) := by omega
      clear hbk hu
      go_wp2_with fail
      go_region
      all_goals go_wp2
      all_goals exact ⟨⟨k + 1, by omega, by go_num, HB.out.drew⟩, by (simp [intOf]; try omega)⟩
    · obtain rfl : k = n := by omega
      go_wp2
      go_ret
      exact ⟨rfl, HB.out⟩
end Go.Proofs.Ytonblhannoinfaa
