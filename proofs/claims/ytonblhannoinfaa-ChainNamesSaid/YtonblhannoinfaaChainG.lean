/- Layer 4 (chain): laws of keys. -/
import Derived.Test.YtonblhannoinfaaChainF
namespace Go.Proofs.Ytonblhannoinfaa
open Go.RowKit
theorem isI_next (s : ByteArray) : isI (nextS s) 40 = true := by
  unfold isI
  rw [nextS_size]
  unfold nextS
  rw [numsOf_str (putL_b8 (digestL_b8 _)), isL_put (digestL_b8 _)]
  rfl
theorem keyAt_is (s : ByteArray) (k : Nat) : isI (keyAt s (k + 1)) 40 = true := isI_next _
theorem fits_keys (s : ByteArray) (k : Nat) : fitsI (keyAt s (k + 2)) (keyAt s (k + 1)) = true := by
  unfold fitsI
  rw [keyAt_is s (k + 1), keyAt_is s k]
  simp [keyAt]
theorem take_keys_new (s t : ByteArray) (k j : Nat) : takeI (keyAt s (k + 2)) (keyAt s (k + 1)) (keyAt t (j + 1)) true = true := by
  unfold takeI
  rw [fits_keys]
  exact keyAt_is t j
theorem take_keys (s : ByteArray) (k : Nat) : takeI (keyAt s (k + 2)) (keyAt s (k + 1)) ⟨#[]⟩ false = true := by
  unfold takeI
  rw [fits_keys]
  exact keyAt_is s k
theorem keysL_get (s : ByteArray) (n k : Nat) (h : k < n) : (keysL s n)[k]? = some (keyAt s (k + 1)) := by
  simp [keysL, h]
end Go.Proofs.Ytonblhannoinfaa
