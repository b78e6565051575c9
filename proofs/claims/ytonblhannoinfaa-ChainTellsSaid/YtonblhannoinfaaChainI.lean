/- Layer 4 (chain): the keys of a seed, the document's. -/
import Derived.Test.YtonblhannoinfaaChainH
namespace Go.Proofs.Ytonblhannoinfaa
open Go.RowKit
theorem strs_one (l : List ByteArray) : ∀ u ∈ strs l, u.oneCell' = true := by
  intro u hu
  simp only [strs, List.mem_map] at hu
  obtain ⟨x, _, rfl⟩ := hu
  rfl
theorem app_strs {w : World} {ops : Array Oper} {rest : List Oper} {o : Oper} {a : Act} {Q : Exit → Act → World → Prop} (hgd : o.guard = none) (s x : Operand)
    (ho : o.op = .call { callee := .builtin .append, args := #[s, x], argTypes := #[58, 58] })
    (base : Nat) (v : Value) (n : Nat) (xs : List ByteArray) (hs : a.eval s = v) (hown : w.ownsRow base 9 1 v n (strs xs))
    (B : Nat) (A : Option Addr) (m c : Nat) (news : List ByteArray) (hx : a.eval x = .slice A m c) (hr : Rd w B 1 A m (strs news)) (hb : n + m ≤ 1000000000) (hbase : base ≤ w.heap.size)
    (h : ∀ v' w', w'.ownsRow base 9 1 v' (n + m) (strs (xs ++ news)) → w.grownBy w' v.ownBlock → (v'.ownBlock = v.ownBlock ∨ v'.ownBlock = some w.heap.size) → wpList Try.prog ops Q rest (a.put o.dst v') w') : wpList Try.prog ops Q (o :: rest) a w := by
  obtain ⟨i0, hi, hz0, hz1, hz2⟩ := info_parts info_str
  refine app_wpList w hgd s x _ ho base _ i0 (.string ⟨#[]⟩) 1 16 Try.underlying58 hi hz0 hz1 hz2 rfl (by decide) v n _ hs hown B A m c _ hx hr (strs_one _) (by unfold maxLen; omega) (by omega) hbase ?_
  rw [show strs xs ++ strs news = strs (xs ++ news) by simp [strs]]; exact h
set_option maxHeartbeats 1000000 in
set_option maxRecDepth 10000 in
theorem refmake_ok (s : ByteArray) (N : Nat) (w : World) (hs : s.size ≤ 16384) (hN : N ≤ 256) :
    Calls Try.prog 45 #[.string s, .int .i64 (N : Int)] w fun e w' => ∃ v, e = .returned (.tuple #[v, .int .i64 0]) ∧ w'.ownsRow w.heap.size 9 1 v N (strs (keysL s N)) ∧ Below w.heap.size w w' := by
  have h1 : ¬ (16384 : Int) < (s.size : Int) := by omega
  have h2 : ¬ (256 : Int) < (N : Int) := by omega
  have HK : Hid (∀ k W, Calls Try.prog 67 #[.string (keyAt s k)] W fun e w' => e = .returned (.string (keyAt s (k + 1))) ∧ Below W.heap.size W w') := fun k W =>
    refbehind_any (keyAt s k) (by cases k with
      | zero => exact hs
      | succ k => rw [keyAt_size]; omega) W
  go_enter Try.func45, Try.ntmps45
  go_wp2
  go_loopw [0, 6, 7] (fun sd out i wr => ∃ k : Nat, k ≤ N ∧ sd = .string (keyAt s k) ∧ i = .int .i64 (k : Int) ∧ wr.ownsRow w.heap.size 9 1 out k (strs (keysL s k)) ∧ Below w.heap.size w wr) (fun _ _ i _ => N - (intOf i).toNat)
  case atStart => exact ⟨0, by omega, rfl, rfl, World.ownsRow_nil _ _ _ _, Below.refl _ _⟩
  case round =>
    obtain ⟨k, hk, rfl, rfl, hown, hbk⟩ := hrel
    obtain ⟨A, c, rfl⟩ := own_form hown
    have HO := Lib.hid hown
    have HB := Lib.hid hbk
    have hsk := hbk.size
    clear hown hbk
    by_cases hlt : k < N
    · have hlt' : (k : Int) < (N : Int) := by omega
      go_wp2_with fail
      refine (HK.out k wr).mono ?_
      rintro e w1 ⟨rfl, hb1⟩
      have HO1 := Lib.hid (own_keep HO.out hb1)
      have HB1 := Lib.hid (HB.out.trans (hb1.mono hsk))
      have hs1 := HB1.out.size
      clear hb1 HO HB
      go_wp2_with (at_builtin; refine app_strs rfl _ _ rfl w.heap.size _ _ _ rfl (own_keep HO1.out ((Below.refl _ w1).alloc (Nat.le_refl _) (.cells #[.string (keyAt s (k + 1))] 9))) (w1.heap.size + 1) (some ⟨w1.heap.size, 0, none⟩) 1 1 [keyAt s (k + 1)] rfl (Rd.new w1 9 #[.string (keyAt s (k + 1))] rfl) (by omega) (by simp; omega) ?_)
      intro v3 w3 hown3 hg3 _
      have HB3 := Lib.hid ((HB1.out.alloc hs1 (.cells #[.string (keyAt s (k + 1))] 9)).grown hg3 (by simp; omega) (fun q hq => (HO1.out.lt q hq).1))
      rw [← keysL_succ] at hown3
      have HO3 := Lib.hid hown3
      clear hown3 hg3 HO1 HB1
      go_wp2
      exact ⟨⟨k + 1, by omega, rfl, by go_num, HO3.out, HB3.out⟩, by (simp [intOf]; try omega)⟩
    · obtain rfl : k = N := by omega
      go_wp2
      exact bodyPost_ret (v := .tuple #[.slice A k c, .int .i64 0]) (by simp [results, Try.results45, go_sem]) rfl ⟨_, rfl, HO.out, HB.out⟩
end Go.Proofs.Ytonblhannoinfaa
