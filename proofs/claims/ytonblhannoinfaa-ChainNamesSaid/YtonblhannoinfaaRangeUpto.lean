/- A range over a function whose iterator has no end of its own: the loop leaves by a break. The rounds are counted by what the caller knows. -/
import Derived.Test.YtonblhannoinfaaChainD
import Derived.RangeFuncNested
import Derived.RangeFuncBound
import Derived.RangeFuncCalls
import Derived.RangeFuncLeaves
import Derived.Shelf.Abstract
import Derived.Shelf.RegionOpen
import Derived.WalkKit
import Derived.OwnWalkIn
import Derived.TacticsInMore
import Derived.LoopNIn
import Derived.LoopIn
import Derived.Maps.AppendAt
namespace Go.Proofs.Ytonblhannoinfaa
open Go.RowKit Go.Shelf
/-- the two blocks of the loop lie as they lay -/
def Keep2 (D : Nat) (W W' : World) : Prop := W'.heap[D]? = W.heap[D]? ∧ W'.heap[D + 1]? = W.heap[D + 1]?
theorem range_upto {P : Program} {g : Operand} {ps : Array Tmp} {assign body : Code} {Q : Exit → Act → World → Prop} {a : Act} {w : World} {n gf id D : Nat} {lb : Array Value} (hD : D = w.heap.size) (h1 : 1 ≤ n)
    (hg : a.eval g = .func (.func gf) #[] lb) (eg : ∀ args w, (callFunc gf args).run P w = .ok (.enter gf args) w)
    (enc : Nat → Value) (hps : ps.size = 1) (J Jy : Nat → World → Prop) (Jx : World → Prop)
    (bJ : ∀ k W l o, (l = D ∨ l = D + 1) → l < W.heap.size → J k W → J k (W.putObj l o))
    (bJy : ∀ k W l o, (l = D ∨ l = D + 1) → l < W.heap.size → Jy k W → Jy k (W.putObj l o))
    (bJx : ∀ W l o, (l = D ∨ l = D + 1) → l < W.heap.size → Jx W → Jx (W.putObj l o))
    (h0 : ∀ r, J 0 ((w.alloc (.deferred (some []))).alloc (.loop r)))
    (hround : ∀ (l k : Nat) (W W' : World), Jy k W' → D + 1 < W'.heap.size →
      assign.wpIn (Fence.wide.inRound l) (n - 1 - 1) P (Exit.then (fun a₁ W₁ => W₁ = W ∧ body.wpIn (Fence.wide.inRound l) (n - 1 - 1) P (fun e _ W3 => Keep2 D W' W3 ∧ ((e = .normal ∧ J (k + 1) W3) ∨ (e = .exit id ∧ Jx W3))) a₁ W') (fun _ _ _ => False))
        { tmps := (ps.zip #[enc k]).foldl (fun t (p, v) => t.setIfInBounds p v) a.tmps, defers := [] } W)
    (hiter : ∀ (l : Nat) (R Rx : World → Prop) (W : World), (∀ W W', R W → Keep2 D W W' → R W') → (∀ W W', Rx W → Keep2 D W W' → Rx W') → (∀ W, R W → D + 1 < W.heap.size) → (∀ W, Rx W → D + 1 < W.heap.size) →
      (∀ k W1, R W1 → Jy k W1 → YieldAt Fence.wide (n - 1 - 1) P l #[enc k] W1 fun e W' => (e = .returned (.bool true) ∧ J (k + 1) W' ∧ R W') ∨ (e = .returned (.bool false) ∧ Jx W' ∧ Rx W')) →
      R W → J 0 W → CallsIn Fence.wide (n - 1) P gf (#[.func (.yield l) #[] #[]] ++ lb) W fun e W' => (∃ v, e = .returned v) ∧ Jx W' ∧ Rx W')
    (hstop : ∀ W, Jx W → W.heap[D]? = some (.deferred (some [])) → Q (.exit id) { a with defers := { target := .collected D, args := #[] } :: a.defers } W) :
    (Code.rangeFunc g ps assign body).wpIn Fence.wide n P Q a w := by
  refine wpIn_rangeFunc ?_
  intro fn hfn
  obtain ⟨rec, hrec⟩ : ∃ rec : LoopState → Option Code → Loop, rec = fun st pe => { state := st, pending := pe, fn, tmps := a.tmps, params := ps, assign, body, defers := D } := ⟨_, rfl⟩
  have hE : (Instr.enterLoop fn a.tmps ps assign body Fence.wide.round).run P w = .ok (D + 1, [{ target := .collected D, args := #[] }]) ((w.alloc (.deferred (some []))).alloc (.loop (rec .ready none))) := by
    rw [hrec, hD]; exact run_enterLoop_outer _ _ _ _ _
  refine ⟨D + 1, [{ target := .collected D, args := #[] }], (w.alloc (.deferred (some []))).alloc (.loop (rec .ready none)), { target := .fn (.func gf) lb, args := #[.func (.yield (D + 1)) #[] #[]] }, (w.alloc (.deferred (some []))).alloc (.loop (rec .ready none)), gf, #[.func (.yield (D + 1)) #[] #[]] ++ lb, (w.alloc (.deferred (some []))).alloc (.loop (rec .ready none)), hE, ?_, fun _ _ => trivial, ?_, fun _ => h1, ?_⟩
  · simp only [resolve, hg]
    simp [go_sem]
  · simp [invoke, go_sem, eg]
  have hW1 : ((w.alloc (.deferred (some []))).alloc (.loop (rec .ready none))).heap[D + 1]? = some (.loop (rec .ready none)) := by
    rw [hD]; have := World.alloc_heap_new (w.alloc (.deferred (some []))) (.loop (rec .ready none)); rwa [World.size_alloc] at this
  have hW0 : ((w.alloc (.deferred (some []))).alloc (.loop (rec .ready none))).heap[D]? = some (.deferred (some [])) := by
    rw [hD]; exact (Below.heap_alloc _ _ _ (by simp)).trans (World.alloc_heap_new w _)
  have lt_of : ∀ (W : World) (x : Loop), W.heap[D + 1]? = some (.loop x) → D + 1 < W.heap.size := fun W x h => (Array.getElem?_eq_some_iff.1 h).1
  refine (hiter (D + 1) (fun W => W.heap[D + 1]? = some (.loop (rec .ready none)) ∧ W.heap[D]? = some (.deferred (some [])))
    (fun W => W.heap[D + 1]? = some (.loop (rec .done (some (.exit id)))) ∧ W.heap[D]? = some (.deferred (some []))) _
    (fun W W' h k => ⟨k.2.trans h.1, k.1.trans h.2⟩) (fun W W' h k => ⟨k.2.trans h.1, k.1.trans h.2⟩) (fun W h => lt_of W _ h.1) (fun W h => lt_of W _ h.1) ?_ ⟨hW1, hW0⟩ (h0 _)).mono ?_
  · rintro k W ⟨hl, hk⟩ hJ
    have hlt := lt_of W _ hl
    have hy := run_yield (P := P) (args := #[enc k]) hl (by rw [hrec]; exact hps.symm)
    rw [hrec] at hy
    have b1 : (W.putObj (D + 1) (.loop { rec .ready none with state := .busy })).heap[D + 1]? = some (.loop { rec .ready none with state := .busy }) := World.putObj_heap_same hlt
    have b2 : (W.putObj (D + 1) (.loop { rec .ready none with state := .busy })).heap[D]? = some (.deferred (some [])) := (World.putObj_heap_other (by omega)).trans hk
    refine ⟨fn, _, assign, body, hy, roundIn_of_wpIn hfn (wpIn_mono (hround (D + 1) k W _ (bJy k W _ (.loop { rec .ready none with state := .busy }) (.inr rfl) hlt hJ) (by simpa using hlt)) ?_)⟩
    intro e a1 W1 he
    cases e with
    | normal =>
      obtain ⟨rfl, he⟩ := he
      refine ⟨_, run_beginRound hl (by rw [hrec]), ?_⟩
      refine wpIn_mono he ?_
      rintro e a3 W3 ⟨hkp, ⟨rfl, hJ3⟩ | ⟨rfl, hX3⟩⟩
      · have c1 := hkp.2.trans b1
        have hlt3 := lt_of W3 _ c1
        have hr := run_endRound (P := P) none c1
        rw [hrec] at hr c1
        refine ⟨_, _, hr, .inl ⟨rfl, bJ _ _ _ _ (.inr rfl) hlt3 hJ3, ?_, (World.putObj_heap_other (by omega)).trans (hkp.1.trans b2)⟩⟩
        rw [hrec]
        exact World.putObj_heap_same hlt3
      · have c1 := hkp.2.trans b1
        have hlt3 := lt_of W3 _ c1
        have hr := run_endRound (P := P) (some (.exit id)) c1
        rw [hrec] at hr c1
        refine ⟨_, _, hr, .inr ⟨rfl, bJx _ _ _ (.inr rfl) hlt3 hX3, ?_, (World.putObj_heap_other (by omega)).trans (hkp.1.trans b2)⟩⟩
        rw [hrec]
        exact World.putObj_heap_same hlt3
    | ret => exact he.elim
    | exit id => exact he.elim
    | goto t => exact he.elim
    | panic ch => exact he.elim
    | outgrown => exact he.elim
  · rintro e W2 ⟨⟨v, rfl⟩, hX, hl, hk⟩
    have hlt := lt_of W2 _ hl
    have he := run_endLoop (P := P) hl (by rw [hrec]; simp)
    rw [hrec] at he
    exact ⟨some (.exit id), _, he, wpIn_exit (hstop _ (bJx _ _ _ (.inr rfl) hlt hX) ((World.putObj_heap_other (by omega)).trans hk))⟩
end Go.Proofs.Ytonblhannoinfaa
