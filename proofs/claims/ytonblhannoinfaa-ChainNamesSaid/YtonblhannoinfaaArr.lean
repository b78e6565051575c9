/- Arrays of integers: one that came in as an argument, read as a list; an array held against itself. -/
import Derived.Test.YtonblhannoinfaaShaE
import Derived.WideKeyArr2
import Derived.ChangeKeysEq
import Derived.Laws.StructEq
namespace Go.Proofs.Ytonblhannoinfaa
open Go.RowKit
theorem eqItems_self (d : Nat) {e : TypeId} {q : IntKind} (k : IntKind) (l : List Int) (he : Try.prog.underlying e = some (.int q)) (ha : ∀ W, (isAgg e).run Try.prog W = .ok false W) (W : World) :
    ∀ is : List Nat, (∀ j ∈ is, j < l.length) → (Op.eqItems (d + 1) e 1 (ints k l).toArray (ints k l).toArray is).run Try.prog W = .ok true W
  | [], _ => rfl
  | j :: is, h => by
    have hj : (ints k l).toArray[j]? = some (.int k (l[j]'(h j (by simp)))) := by
      have := h j (by simp)
      simp [ints, this]
    have hp : (Go.part e (ints k l).toArray (j * 1)).run Try.prog W = .ok (.int k (l[j]'(h j (by simp)))) W := by
      rw [Nat.mul_one]
      simp [Go.part, ha, hj]
    simp only [Op.eqItems, Sem.run_bind, hp, Result.andThen_ok, run_equalIn_int W d e k q _ _ he]
    simpa using eqItems_self d k l he ha W is (fun j hj => h j (by simp [hj]))
theorem eql_arr {t e : TypeId} {n : Nat} {q : IntKind} {i : TypeInfo} (k : IntKind) (l : List Int) (hu : Try.prog.underlying t = some (.array n e)) (hi : Try.prog.info? e = some i) (hc : Try.prog.cellsOf e = 1) (he : Try.prog.underlying e = some (.int q))
    (ha : ∀ W, (isAgg e).run Try.prog W = .ok false W) (hl : l.length = n) (W : World) : (binOp .eql t (.agg (ints k l).toArray) (.agg (ints k l).toArray)).run Try.prog W = .ok (.bool true) W := by
  rw [run_eql_struct, run_equalIn_array W 9999 _ _ hu hi, hc, eqItems_self 9998 k l he ha W _ (fun j hj => by have := List.mem_range.1 hj; omega)]
  rfl
/-! an argument -/
theorem trod_nums {H : Type} {enc : TypeId × Value → H} {P : Program} {e : TypeId} {q : IntKind} {W : World} {base : Nat} {sp : Nat → Bool} {held : Bool} (he : P.underlying e = some (.int q)) {m : Nat} {cs : List Value} : ∀ (L : List Nat) (xs : List (DataW H × List MemPlace)),
    L.mapM (fun i => DataW.trod enc P W base sp held m e ((cs.drop (i * 1)).take 1)) = some xs → ∀ i ∈ L, ∃ a, (cs.drop i).take 1 = [.int q a] ∧ (Lit.int q a).wf = true
  | [], _, _ => by simp
  | i :: L, xs, h => by
    rw [List.mapM_cons] at h
    simp only [bind, Option.bind_eq_some_iff, pure, Option.some.injEq] at h
    obtain ⟨y, hy, ys, hys, rfl⟩ := h
    obtain ⟨a, ea, rfl, wa⟩ := Go.DataW.trod_int he hy
    intro j hj
    rcases List.mem_cons.1 hj with rfl | hj
    · rw [Nat.mul_one] at ea
      exact ⟨a, ea, wa⟩
    · exact trod_nums he L ys hys j hj
theorem open_nums {H : Type} {enc : TypeId × Value → H} {P : Program} {k e : TypeId} {n : Nat} {q : IntKind} {W : World} {base b0 : Nat} {sp : Nat → Bool} {held : Bool} {r : Reach} {v : Value} {d : DataW H} {ps : List MemPlace} (hu : P.underlying k = some (.array n e)) (hk : P.cellsOf k = n) (hc : P.cellsOf e = 1) (he : P.underlying e = some (.int q))
    (hv : Value.okWide P W r b0 k v) (hd : DataW.Trod enc P W base sp held k v d ps) : ∃ cs l, v = .agg cs ∧ ArrOf q l cs ∧ l.length = n ∧ ∀ x ∈ l, (Lit.int q x).wf = true := by
  simp only [Value.okWide, hu] at hv
  obtain ⟨cs, rfl, h2, _⟩ := hv
  have hn : cs.size = n := by rw [h2, hk]
  obtain ⟨fuel, hf⟩ := hd
  cases fuel with
  | zero => simp [DataW.trod] at hf
  | succ m =>
    rw [DataW.trod_step] at hf
    unfold DataW.trodStep at hf
    simp only [hu, Value.cells] at hf
    rw [if_pos (by rw [hk]; simpa using hn)] at hf
    simp only [Option.map_eq_some_iff, hc] at hf
    obtain ⟨ys, hy, _⟩ := hf
    have key := trod_nums he _ ys hy
    have hall : ∀ c ∈ cs.toList, ∃ a, c = .int q a ∧ (Lit.int q a).wf = true := by
      intro c hc
      obtain ⟨i, hi, rfl⟩ := List.mem_iff_getElem.1 hc
      obtain ⟨a, ea, wa⟩ := key i (List.mem_range.2 (by simp at hi; omega))
      rw [List.drop_eq_getElem_cons hi] at ea
      simp only [List.take_succ_cons, List.take_zero, List.cons.injEq, and_true] at ea
      exact ⟨a, ea, wa⟩
    have hl : ∀ l : List Value, (∀ c ∈ l, ∃ a, c = .int q a ∧ (Lit.int q a).wf = true) → ∃ z : List Int, l = ints q z ∧ ∀ x ∈ z, (Lit.int q x).wf = true := by
      intro l
      induction l with
      | nil => intro _; exact ⟨[], rfl, by simp⟩
      | cons c l ih =>
        intro h
        obtain ⟨a, rfl, wa⟩ := h c (by simp)
        obtain ⟨z, rfl, hz⟩ := ih (fun c hc => h c (by simp [hc]))
        exact ⟨a :: z, rfl, fun x hx => by rcases List.mem_cons.1 hx with rfl | hx; exact wa; exact hz x hx⟩
    obtain ⟨z, hz, hw⟩ := hl cs.toList hall
    refine ⟨cs, z, rfl, hz, ?_, hw⟩
    have : cs.toList.length = z.length := by rw [hz]; simp [ints]
    simpa [hn] using this.symm
end Go.Proofs.Ytonblhannoinfaa
