/- Part 6 of a proof laid in parts, one behind the other; no condition of its own. -/
import Derived.Test.YtknjkljigmepjaaGreatDoorZ05
import Derived.Laws.AppendOwn
import Derived.Deep.Upon
import Derived.Laws.Tables
import Derived.Laws.Slices
import Derived.Laws.MakeOwn
import Derived.Laws.Small
import Derived.Laws.BytesString
import Derived.Laws.BytesArg
import Derived.Lib.MinMax
set_option linter.all false
section
namespace Go.Proofs.YtknjkljigmepjaaGreatDoor.Clo
open Go.RowKit
set_option linter.unusedVariables false
set_option linter.unusedSimpArgs false
variable [Tabs]
section
variable {P : Program} {G dt n : Nat} {ds : List (Option Nat)} {o : Oper}
noncomputable def AV.on_fy (a : AV) (k : Fn → AV → AV → R) (ky : Id → R) : R := AV.rec (motive := fun _ => R) none none (fun _ _ _ _ => none) none (fun _ _ _ => none) none (fun x0 x1 x2 _ _ => k x0 x1 x2) none (fun _ => none) (fun _ _ => none) (fun _ _ => none) none (fun _ _ _ _ => none) (fun _ _ _ _ => none) (fun _ _ _ => none) (fun x0 => ky x0) (fun _ => none) none (fun _ _ => none) (fun _ => none) (fun _ => none) (fun _ _ => none) a
theorem AV.on_fy_some {a : AV} {k : Fn → AV → AV → R} {ky : Id → R} {r : AV × HP} (h : a.on_fy k ky = some r) : (∃ x0 x1 x2, a = .fn x0 x1 x2 ∧ k x0 x1 x2 = some r) ∨ ∃ q, a = .yd q ∧ ky q = some r := by
  cases a <;> first | exact .inl ⟨_, _, _, rfl, h⟩ | exact .inr ⟨_, rfl, h⟩ | cases h
noncomputable def callF (g : GV) (gs : List GV) : OM := .mk fun hd e t hp k kp => (g.run e t).on_fy (fun f first cap => match f with
  | .func f => hd.c f (first.app ((argsA gs e t).app cap)) hp k kp
  | _ => none) fun q => Bool.rec (motive := fun _ => R) none (hd.y.f q (argsA gs e t) hp k) hd.y.on
theorem call_ok {f : Operand} {xs : Array Operand} {ts : Array TypeId} (ho : o.op = .call { callee := .value f, args := xs, argTypes := ts }) :
    OpOk P G dt n ds o (callF (opd G dt n ds f) (xs.toList.map (opd G dt n ds))) := by
  intro hd hok e t hp k kp r hr
  have hr' : ((opd G dt n ds f).run e t).on_fy (fun f first cap => match f with
    | .func f => hd.c f (first.app ((argsA (xs.toList.map (opd G dt n ds)) e t).app cap)) hp k kp
    | _ => none) (fun q => Bool.rec (motive := fun _ => R) none (hd.y.f q (argsA (xs.toList.map (opd G dt n ds)) e t) hp k) hd.y.on) = some r := hr
  rcases AV.on_fy_some hr' with ⟨fn, first, cap, hf, h1⟩ | ⟨q, hf, h1⟩
  rotate_left
  · cases hon : hd.y.on with
    | false => rw [hon] at h1; cases h1
    | true =>
    rw [hon] at h1
    obtain ⟨v, hp', h2, h3⟩ := hok.1 q _ hp k r h1
    refine .inl ⟨v, hp', h2, fun φ B a w g1 g2 g4 K Q hK => .inr ⟨rfl, ?_⟩⟩
    have hfv := g2 f (by rw [ho]; simp [Op.operands, Call.operands])
    rw [hf] at hfv
    obtain ⟨g, hg, e1⟩ := hfv
    have e1' : a.eval f = .func (.yield g.1) #[] #[] := e1
    have hargs : VL φ (argsA (xs.toList.map (opd G dt n ds)) e t) (xs.map a.eval).toList := by
      rw [Array.toList_map]
      exact argsA_ok fun x hm => g2 x (by rw [ho]; simp only [Op.operands, Call.operands, Array.mem_append]; exact .inr (Array.mem_toList_iff.1 hm))
    obtain ⟨fn, tmps, as', bd, r1, r2⟩ := h3 φ B w _ g g1 g4 hargs hg
    refine ⟨g.1, fn, tmps, as', bd, ?_, by unfold noDefer; rw [ho], RoundIn.mono r2 fun e w' ⟨v', e2, h4⟩ => ⟨v', e2, hK v' w' h4⟩⟩
    rw [← r1]
    unfold execOp
    rw [ho]
    simp only [resolve, e1', Deferred.ofValue, Sem.run_bind, Sem.run_pure, Result.andThen_ok, invoke, Array.empty_append]
  split at h1
  · rename_i fid
    have prep : ∀ φ (a : Act) (w : World), Glo G φ → OpsR G dt n ds φ e t a.eval o.op → ∃ ars : Array Value, VL φ (first.app ((argsA (xs.toList.map (opd G dt n ds)) e t).app cap)) ars.toList ∧ (execOp a.eval o).run P w = (callFunc fid ars).run P w := by
      intro φ a w g1 g2
      have hfv := g2 f (by rw [ho]; simp [Op.operands, Call.operands])
      rw [hf] at hfv
      obtain ⟨us, ys, e1, v1, v2⟩ := hfv
      have e1' : a.eval f = .func (.func fid) us ys := e1
      refine ⟨(us ++ xs.map a.eval) ++ ys, ?_, ?_⟩
      · rw [Array.toList_append, Array.toList_append, Array.toList_map, List.append_assoc]
        exact VL.app v1 (VL.app (argsA_ok fun x hm => g2 x (by rw [ho]; simp only [Op.operands, Call.operands, Array.mem_append]; exact .inr (Array.mem_toList_iff.1 hm))) v2)
      · unfold execOp
        rw [ho]
        simp only [resolve, e1', Deferred.ofValue, Sem.run_bind, Sem.run_pure, Result.andThen_ok, invoke]
    rcases hok.c fid _ hp k kp r h1 with ⟨v, hp', h2, h3⟩ | ⟨v, hp', h2, h3⟩
    · refine .inl ⟨v, hp', h2, fun φ B a w g1 g2 g4 K Q hK => ?_⟩
      obtain ⟨ars, hargs, hrun⟩ := prep φ a w g1 g2
      have hc := h3 φ B w _ g1 g4 hargs
      refine .inl ?_
      unfold Oper.wp
      rw [hrun]
      rcases hc with ⟨c1, c2⟩ | ⟨v', w', c1, c2⟩
      · rw [c1]
        refine Calls.mono c2 fun e' w' he => ?_
        obtain ⟨v', rfl, c3⟩ := he
        exact hK v' w' c3
      · rw [c1]
        exact hK v' w' c2
    · refine .inr ⟨v, hp', h2, fun φ B a w g1 g2 g4 K Q hQ => ?_⟩
      obtain ⟨ars, hargs, hrun⟩ := prep φ a w g1 g2
      obtain ⟨c1, c2⟩ := h3 φ B w _ g1 g4 hargs
      refine .inl ?_
      unfold Oper.wp
      rw [hrun, c1]
      refine Calls.mono c2 fun e' w' he => ?_
      obtain ⟨v', rfl, c3⟩ := he
      exact hQ v' w' c3
  · cases h1
end
end Go.Proofs.YtknjkljigmepjaaGreatDoor.Clo
end
section
namespace Go.Proofs.YtknjkljigmepjaaGreatDoor.Clo
open Go.RowKit
set_option linter.unusedVariables false
set_option linter.unusedSimpArgs false
variable [Tabs]
section
variable {φ : Id → Option Plc} {h : Mem} {nx : Id} {w : World} {sts : List Site} {B : Bse sts}
theorem WR.drew (hw : WR φ B h nx w) : WR φ B h nx w.drew ∧ Step φ h nx w φ h nx w.drew :=
  ⟨⟨hw.len, hw.fresh, hw.blk, hw.inj, hw.lt, hw.base, hw.bsz, hw.loops.mono (.refl _) (show LK w w.drew from LK.same fun _ _ => rfl), hw.tabs⟩, ⟨.refl _, rfl, rfl, rfl, Nat.le_refl _, fun _ _ _ => rfl, fun _ _ h => h, fun _ _ h k => ⟨h, k⟩, Nat.le_refl _, fun _ _ _ => rfl, LK.same fun _ _ => rfl⟩⟩
theorem WR.del (hw : WR φ B h nx w) {r : Id} {x : Blk} {g : Plc} (hr : h.get r = some x) (hg : φ r = some g) : WR φ B (h.del r) nx w ∧ Step φ h nx w φ (h.del r) nx w := by
  have hrl := (hw.fresh r (.inl (by rw [hr]; simp))).1
  have back : ∀ q z, (h.del r).get q = some z → h.get q = some z := fun q z e => (T4.get_of_del r q h z e).1
  refine ⟨⟨hw.len, fun q hq => hw.fresh q ?_, fun q z k hq hk => hw.blk q z k (back q z hq) hk, fun q q' z z' k k' hq hq' hk hk' hkk => hw.inj q q' z z' k k' (back q z hq) (back q' z' hq') hk hk' hkk, hw.lt, fun q z k hq hz hk => hw.base q z k (back q z hq) hz hk, hw.bsz, hw.loops, hw.tabs⟩,
    ⟨.refl _, rfl, rfl, rfl, Nat.le_refl _, fun _ _ _ => rfl, fun b _ ⟨q, z, k, h1, h2, h3, h4⟩ => ⟨q, z, k, back q z h1, h2, h3, h4⟩, fun q z hq hn => ⟨?_, hn⟩, Nat.le_refl _, fun _ _ _ => rfl, LK.refl _⟩⟩
  · rcases hq with hq | hq
    · left
      cases e : (h.del r).get q with
      | none => exact absurd e hq
      | some z => rw [back q z e]; simp
    · exact .inr hq
  · have hql := (hw.fresh q (.inl (by rw [hq]; simp))).1
    have hne : q ≠ r := fun e => by subst e; rw [hg] at hn; cases hn
    exact (T4.get_del_other r q h (hrl.trans hql.symm) hne).trans hq
theorem WR.heir (hw : WR φ B h nx w) (hl : last nx = false) {r : Id} {x y : Blk} {g : Plc} {kb : Nat × Nat} {w' : World} {o : Obj} (hr : h.get r = some x) (hx : x.ro = false) (hg : φ r = some g)
    (hos : w'.os = w.os) (htape : w'.tape = w.tape) (hout : w'.output = w.output) (hsz : w'.heap.size = w.heap.size) (hkeep : ∀ k, k ≠ g.1 → w'.heap[k]? = w.heap[k]?) (hat : w'.heap[g.1]? = some o) (ho : y.says φ kb o) (hlp : x.lp = false := by exact rfl) :
    WR (ext φ nx (g.1, kb)) B ((h.del r).set nx y) (inc nx) w' ∧ Step φ h nx w (ext φ nx (g.1, kb)) ((h.del r).set nx y) (inc nx) w' := by
  have hlk : LK w w' := by
    intro l rec e
    by_cases hl : l = g.1
    · subst hl
      obtain ⟨o0, e0, h0⟩ := hw.blk r x g hr hg
      rw [e] at e0
      cases e0
      exact (Blk.says_not_loop hlp h0).elim
    · exact ⟨rec, by rw [hkeep l hl]; exact e, rfl, rfl, rfl, rfl⟩
  obtain ⟨hn1, hn2⟩ := hw.nx_none
  have hm : More φ (ext φ nx (g.1, kb)) := ext_more _ hn2
  have hinc := inc_num nx hl
  have hd : nx.length = DB := hw.len
  have hrl := (hw.fresh r (.inl (by rw [hr]; simp))).1
  have hne : ∀ q, h.get q ≠ none ∨ φ q ≠ none → q ≠ nx := fun q hq e => by subst e; have := (hw.fresh _ hq).2; omega
  have back : ∀ q z, ((h.del r).set nx y).get q = some z → q ≠ nx → h.get q = some z ∧ q ≠ r := fun q z e hq => T4.get_of_del r q h z (T4.get_of_set y nx q (h.del r) z e hq)
  have same : ((h.del r).set nx y).get nx = some y := T4.get_set_same y nx (h.del r)
  have fwd : ∀ q z, h.get q = some z → q ≠ r → ((h.del r).set nx y).get q = some z := fun q z e hq => by
    have hf := hw.fresh q (.inl (by rw [e]; simp))
    exact (T4.get_set_other y nx q (h.del r) (hd.trans hf.1.symm) (hne q (.inl (by rw [e]; simp)))).trans ((T4.get_del_other r q h (hrl.trans hf.1.symm) hq).trans e)
  have own : Own φ h g.1 := ⟨r, x, g, hr, hx, hg, rfl⟩
  constructor
  · refine ⟨by rw [inc_len]; exact hd, fun q hq => ?_, fun q z k hq hk => ?_, fun q q' z z' k k' hq hq' hk hk' hkk => ?_, fun q k hk => ?_, fun q z k hq hz hk => ?_, by rw [hsz]; exact hw.bsz, hw.loops.mono hm hlk, hw.tabs.keep fun j hj => hkeep j (by have := hw.base r x g hr hx hg; omega)⟩
    · by_cases e : q = nx
      · subst e; exact ⟨hd, by rw [hinc]; omega⟩
      · have : h.get q ≠ none ∨ φ q ≠ none := by
          rcases hq with hq | hq
          · left
            cases e' : ((h.del r).set nx y).get q with
            | none => exact absurd e' hq
            | some z => rw [(back q z e' e).1]; simp
          · right; rw [ext_other φ _ e] at hq; exact hq
        have hf := hw.fresh q this
        exact ⟨hf.1, by rw [hinc]; omega⟩
    · by_cases e : q = nx
      · subst e
        rw [same] at hq
        rw [ext_same] at hk
        cases hq; cases hk
        exact ⟨o, hat, Blk.says_more hm ho⟩
      · obtain ⟨hz, hqr⟩ := back q z hq e
        rw [ext_other φ _ e] at hk
        obtain ⟨o', h1, h2⟩ := hw.blk q z k hz hk
        exact ⟨o', (hkeep k.1 (fun ek => hqr (hw.inj q r z x k g hz hr hk hg ek))).trans h1, Blk.says_more hm h2⟩
    · by_cases e : q = nx
      · subst e
        rw [ext_same] at hk
        cases hk
        by_cases e' : q' = q
        · exact e'.symm
        · obtain ⟨hz', hqr⟩ := back q' z' hq' e'
          rw [ext_other φ _ e'] at hk'
          exact absurd (hw.inj q' r z' x k' g hz' hr hk' hg hkk.symm) hqr
      · obtain ⟨hz, hqr⟩ := back q z hq e
        rw [ext_other φ _ e] at hk
        by_cases e' : q' = nx
        · subst e'
          rw [ext_same] at hk'
          cases hk'
          exact absurd (hw.inj q r z x k g hz hr hk hg hkk) hqr
        · obtain ⟨hz', _⟩ := back q' z' hq' e'
          rw [ext_other φ _ e'] at hk'
          exact hw.inj q q' z z' k k' hz hz' hk hk' hkk
    · rw [hsz]
      by_cases e : q = nx
      · subst e; rw [ext_same] at hk; cases hk; exact hw.lt r g hg
      · rw [ext_other φ _ e] at hk; exact hw.lt q k hk
    · by_cases e : q = nx
      · subst e; rw [ext_same] at hk; cases hk; exact hw.base r x g hr hx hg
      · rw [ext_other φ _ e] at hk; exact hw.base q z k (back q z hq e).1 hz hk
  · refine ⟨hm, hos, htape, hout, by rw [hsz]; exact Nat.le_refl _, fun k hk hn => hkeep k (fun e => hn (by rw [e]; exact own)), fun k hk ⟨q, z, g', h1, h2, h3, h4⟩ => ?_, fun q z hq hn => ⟨fwd q z hq (fun e => by subst e; rw [hg] at hn; cases hn), by rw [ext_other φ _ (hne q (.inl (by rw [hq]; simp)))]; exact hn⟩, by rw [hinc]; omega, fun q hq hlt => ext_other φ _ (fun e => by subst e; omega), hlk⟩
    by_cases e : q = nx
    · subst e; rw [ext_same] at h3; cases h3; rw [← h4]; exact own
    · rw [ext_other φ _ e] at h3
      exact ⟨q, z, g', (back q z h1 e).1, h2, h3, h4⟩
end
end Go.Proofs.YtknjkljigmepjaaGreatDoor.Clo
end
section
namespace Go.Proofs.YtknjkljigmepjaaGreatDoor.Clo
open Go.RowKit
set_option linter.unusedVariables false
set_option linter.unusedSimpArgs false
variable [Tabs]
noncomputable def bytesA (l : List Nat) : AV := List.rec (motive := fun _ => AV) .nil (fun x _ r => .cons (.i .u8 (Int.ofNat x)) r) l
theorem bytesA_ok {φ : Id → Option Plc} : ∀ {l : List Nat}, B256 l → VL φ (bytesA l) (byteCells (bytesOf l))
  | [], _ => rfl
  | x :: l, h => by
    have hx : x < 256 := h x (by simp)
    have e : byteCells (bytesOf (x :: l)) = .int .u8 ((x : Nat) : Int) :: byteCells (bytesOf l) := by
      simp [byteCells, bytesOf, UInt8.toNat_ofNat', Nat.mod_eq_of_lt hx]
    rw [e]
    exact ⟨_, _, rfl, rfl, bytesA_ok fun y hy => h y (by simp [hy])⟩
noncomputable def rowF (size : Nat) (r : Id) (q m : Nat) (hp : HP) (k : Nat → AV → R) : R :=
  hp.on fun mem _ => onRow mem r fun _ _ _ _ cells => Option.rec (motive := fun _ => R) none (fun y => match y.allOne with | true => k m y | false => none) ((cells.drop q).takeO (Nat.mul m size))
noncomputable def srcF (size : Nat) (a : AV) (hp : HP) (k : Nat → AV → R) : R := match a with
  | .sn => k 0 .nil
  | .sl r q m _ => rowF size r q m hp k
  | .sg r q m _ => rowF size r q m hp k
  | .se _ _ _ => k 0 .nil
  | .s l => match Nat.beq size 1 with
    | true => k (lenL l) (bytesA l)
    | false => none
  | _ => none
section
variable {P : Program} {tx : TypeId}
theorem drop_take {cells y : AV} {q m : Nat} (h : (cells.drop q).takeO m = some y) : (q + m ≤ cells.len ∨ m = 0) ∧ y = (cells.drop q).take m := by
  obtain ⟨h1, h2⟩ := AV.takeO_some m h
  refine ⟨?_, h2⟩
  rcases Nat.eq_zero_or_pos m with h0 | h0
  · exact .inr h0
  · have := AV.drop_len q cells (by omega)
    exact .inl (by omega)
theorem seg_ok (P : Program) {φ : Id → Option Plc} {sts : List Site} {B : Bse sts} {h : Mem} {nx : Id} {w : World} (hw : WR φ B h nx w) {r : Id} {t : TypeId} {gr : Bool} {fz : Option Nat} {ro : Bool} {cells y : AV} {g : Plc} {q m : Nat} (hr : h.get r = some (.row t gr fz ro cells)) (hg : φ r = some g) (ht : (cells.drop q).takeO m = some y) :
    ∃ vs : List Value, VL φ y vs ∧ vs.length = m ∧ ∀ j v, vs[j]? = some v → w.cell? ((⟨g.1, g.2.2 + q, none⟩ : Addr).add j) = some v := by
  obtain ⟨h1, h2⟩ := drop_take ht
  rcases h1 with h1 | h1
  · obtain ⟨vs, _, e2, e3, e4⟩ := RW.cells (P := P) hw.rw hr hg h1
    exact ⟨vs, by rw [h2]; exact e2, e3, fun j v hv => by rw [add_lit]; exact e4 j v hv⟩
  · subst h1
    exact ⟨[], by rw [h2]; rfl, rfl, fun j v hv => by simp at hv⟩
theorem srcF_some {size : Nat} {a : AV} {hp : HP} {k : Nat → AV → R} {x : AV × HP} (h : srcF size a hp k = some x) : ∃ m y, k m y = some x ∧ ∀ {sts : List Site} φ (B : Bse sts) w v, WH φ B hp w → VR φ a v → ((∃ e', P.underlying tx = some (.slice e')) ∨ P.underlying tx = some .string) →
    ∃ news, Src P size tx v m news w ∧ VL φ y news := by
  have row : ∀ r q m, rowF size r q m hp k = some x → ∃ y, k m y = some x ∧ ∀ {sts : List Site} φ (B : Bse sts) w (g : Plc) c, WH φ B hp w → φ r = some g → ((∃ e', P.underlying tx = some (.slice e')) ∨ P.underlying tx = some .string) → ∃ news, Src P size tx (.slice (some ⟨g.1, g.2.2 + q, none⟩) m c) m news w ∧ VL φ y news := by
    intro r q m hh
    cases hp with
    | mk mem nx =>
    obtain ⟨t, gr, fz, ro, cells, hm, h2⟩ := onRow_some hh
    cases ht : (cells.drop q).takeO (Nat.mul m size) with
    | none => simp only [ht] at h2; cases h2
    | some y =>
      simp only [ht] at h2
      split at h2
      · rename_i ho
        refine ⟨y, h2, fun φ B w g c hw hg hk => ?_⟩
        obtain ⟨vs, e1, e2, e3⟩ := seg_ok P hw hm hg ht
        have hl : vs.length = m * size := e2
        exact ⟨vs, ⟨hk, fun _ => rfl, run_firstCells_some w size m _ m c vs hl e3, run_firstCells_some w.drew size m _ m c vs hl (by simpa using e3), hl, AV.allOne_ok ho e1⟩, e1⟩
      · cases h2
  unfold srcF at h
  split at h
  · exact ⟨0, .nil, h, fun φ B w v hw hv hk => ⟨[], ⟨hk, fun _ => by have : v = _ := hv; subst this; rfl, by have : v = _ := hv; subst this; exact run_firstCells_none w size 0 0 0, by have : v = _ := hv; subst this; exact run_firstCells_none w.drew size 0 0 0, by simp, fun _ hu => by cases hu⟩, rfl⟩⟩
  · rename_i r q m c
    obtain ⟨y, h1, h2⟩ := row r q m h
    refine ⟨m, y, h1, fun φ B w v hw hv hk => ?_⟩
    obtain ⟨g, c', hg, e, _⟩ := hv
    subst e
    exact h2 φ B w g c' hw hg hk
  · rename_i r q m z
    obtain ⟨y, h1, h2⟩ := row r q m h
    refine ⟨m, y, h1, fun φ B w v hw hv hk => ?_⟩
    obtain ⟨g, c', hg, e, _⟩ := hv
    subst e
    exact h2 φ B w g c' hw hg hk
  · rename_i r q z
    refine ⟨0, .nil, h, fun φ B w v hw hv hk => ?_⟩
    obtain ⟨g, o, c', hg, e, _⟩ := hv
    subst e
    exact ⟨[], ⟨hk, fun _ => rfl, run_firstCells_some w size 0 _ 0 c' [] (by simp) (fun j u hj => by simp at hj), run_firstCells_some w.drew size 0 _ 0 c' [] (by simp) (fun j u hj => by simp at hj), by simp, fun u hu => by cases hu⟩, rfl⟩
  · rename_i l
    split at h
    · rename_i hs
      have hs' := Nat.eq_of_beq_eq_true hs
      subst hs'
      refine ⟨lenL l, bytesA l, h, fun φ B w v hw hv hk => ?_⟩
      obtain ⟨e, b1⟩ := hv
      subst e
      have hz : (bytesOf l).size = lenL l := by rw [bytes_size, lenL_eq]
      refine ⟨byteCells (bytesOf l), ⟨hk, fun _ => by rw [← hz]; rfl, by rw [← hz]; exact firstCells_string _ w, by rw [← hz]; exact firstCells_string _ w.drew, by rw [byteCells_length, hz, Nat.mul_one], fun u hu => ?_⟩, bytesA_ok b1⟩
      obtain ⟨_, _, rfl⟩ := List.mem_map.1 hu
      rfl
    · cases h
  · cases h
end
end Go.Proofs.YtknjkljigmepjaaGreatDoor.Clo
end
section
namespace Go.Proofs.YtknjkljigmepjaaGreatDoor.Clo
open Go.RowKit
set_option linter.unusedVariables false
set_option linter.unusedSimpArgs false
variable [Tabs]
noncomputable def growF (e : TypeId) (size bytes : Nat) (olds y : AV) (m : Nat) (hp : HP) (k : KV) : R :=
  hp.on fun mem nx => match last nx with
    | true => none
    | false => match Nat.ble (Nat.mul (Nat.mul 2 m) bytes) 281474976710656 with
      | false => none
      | true => match Nat.ble m 1000000000000 with
        | false => none
        | true => k (.sg nx 0 m size) (.mk (mem.set nx (.row e true (some 0) false (olds.app y))) (inc nx))
section
variable {P : Program} {G dt n : Nat} {lo : Nat → Bool} {ds : List (Option Nat)} {o : Oper}
theorem grow_ok {t tx e ty : TypeId} {i : TypeInfo} {z : Value} (ht : P.underlying t = some (.slice e)) (hi : P.info? e = some i) (hz : i.zero = some z) (hzs : z.cells.size = i.size)
    {olds y : AV} {m : Nat} {hp : HP} {k : KV} {x : AV × HP} (h : growF e i.size i.bytes olds y m hp k = some x) : ∃ v hp', k v hp' = some x ∧ ∀ {sts : List Site} φ (B : Bse sts) w (base : Option Addr) (sLen sCap nn : Nat) (xv : Value) (os news : List Value), WH φ B hp w → sLen + nn = m → sCap < m →
      (Builtin.firstCells i.size sLen (.slice base sLen sCap)).run P w.drew = .ok os.toArray w.drew → os.length = sLen * i.size → VL φ olds os → VL φ y news → Src P i.size tx xv nn news w →
      ∃ ψ v' w', (Builtin.append_ #[t, tx] ty #[.slice base sLen sCap, xv]).run P w = .ok v' w' ∧ VR ψ v v' ∧ StH φ hp w ψ hp' w' ∧ WH ψ B hp' w' := by
  cases hp with
  | mk mem nx =>
  have h' : (match last nx with
    | true => none
    | false => match Nat.ble (Nat.mul (Nat.mul 2 m) i.bytes) 281474976710656 with
      | false => none
      | true => match Nat.ble m 1000000000000 with
        | false => none
        | true => k (.sg nx 0 m i.size) (.mk (mem.set nx (.row e true (some 0) false (olds.app y))) (inc nx)) : R) = some x := h
  split at h'
  · cases h'
  rename_i hl
  split at h'
  · cases h'
  rename_i hf
  split at h'
  · cases h'
  rename_i hm
  have hf' : 2 * m * i.bytes ≤ 281474976710656 := Nat.le_of_ble_eq_true hf
  have hm' : m ≤ 1000000000000 := Nat.le_of_ble_eq_true hm
  refine ⟨_, _, h', fun φ B w base sLen sCap nn xv os news hw hmn hcap hold hol ho hy hs => ?_⟩
  subst hmn
  have hfit : Builtin.nextslicecap (sLen + nn) sCap * i.bytes ≤ 281474976710656 := Nat.le_trans (Nat.mul_le_mul_right _ (nextslicecap_le hcap)) hf'
  have hrun := run_append_grow_src (P := P) w t tx ty e i z ht hi hz base sLen sCap os hold xv nn news hs hcap (by omega) hfit
  have hgc := grownCap_ge w (sLen + nn) sCap e
  generalize grownCap w (sLen + nn) sCap e = gc at hrun hgc
  obtain ⟨hw1, hs1⟩ := WR.drew hw
  have hK : ((os ++ news).toArray ++ Builtin.zeroCells z.cells (gc - (sLen + nn))).size = gc * i.size := by
    rw [Array.size_append, size_zeroCells, hzs, List.size_toArray, List.length_append, hol, hs.newsLen, ← Nat.add_mul, ← Nat.add_mul]
    congr 1
    omega
  obtain ⟨h1, h2⟩ := WR.new hw1 hl (x := .row e true (some 0) false (olds.app y)) (o := .cells ((os ++ news).toArray ++ Builtin.zeroCells z.cells (gc - (sLen + nn))) e) (K := (gc * i.size, 0))
    ⟨_, [], os ++ news, (Builtin.zeroCells z.cells (gc - (sLen + nn))).toList, (0, 0), rfl, by simp, VL.app ho hy, (fun h => by cases h), hK, rfl, fun i _ _ h => absurd h (Nat.not_lt_zero i)⟩ (.alloc _ _)
  exact ⟨_, _, _, hrun, ⟨(w.drew.heap.size, gc * i.size, 0), gc, ext_same φ nx _, rfl, hgc, by simp⟩, hs1.trans h2, h1⟩
end
end Go.Proofs.YtknjkljigmepjaaGreatDoor.Clo
end
section
namespace Go.Proofs.YtknjkljigmepjaaGreatDoor.Clo
open Go.RowKit
set_option linter.unusedVariables false
set_option linter.unusedSimpArgs false
variable [Tabs]
def SgR (φ : Id → Option Plc) (r : Id) (q m z : Nat) (s : Value) : Prop := ∃ (g : Plc) (o k : Nat), φ r = some g ∧ s = .slice (some ⟨g.1, o, none⟩) m k ∧ m ≤ k ∧ ((o = g.2.2 + q ∧ o + k * z = g.2.1) ∨ (m = 0 ∧ k = 0))
noncomputable def oldsF (cells : AV) (q m size : Nat) (k : AV → R) : R := match Nat.beq m 0 with
  | true => k .nil
  | false => match Nat.beq cells.len (Nat.add q (Nat.mul m size)) with
    | true => k (cells.drop q)
    | false => none
noncomputable def heirF (e : TypeId) (size bytes : Nat) (r : Id) (q m : Nat) (nn : Nat) (y : AV) (hp : HP) (k : KV) : R :=
  hp.on fun mem nx => match last nx with
    | true => none
    | false => onRow mem r fun t gr fz ro cells => match ro with
      | true => none
      | false => match okF fz (Nat.add q (Nat.mul m size)) with
        | false => none
        | true => match Nat.beq t e with
          | false => none
          | true => match Nat.ble (Nat.mul (Nat.mul 2 (Nat.add m nn)) bytes) 281474976710656 with
              | false => none
              | true => match Nat.ble (Nat.add m nn) 1000000000000 with
                | false => none
                | true => match Nat.beq nn 0 with
                  | true => none
                  | false => oldsF cells q m size fun olds => k (.sg nx 0 (Nat.add m nn) size) (.mk ((mem.del r).set nx (.row e true (fz.map fun z => Nat.sub z q) false (olds.app y))) (inc nx))
theorem setManyA_mid {vs : List Value} {o : Nat} {c : Array Value} (h : o + vs.length ≤ c.size) : (setManyA vs o c).toList = c.toList.take o ++ (vs ++ c.toList.drop (o + vs.length)) := by
  have hl : c.toList.length = c.size := Array.length_toList
  refine setManyA_all vs o c (c.toList.take o) ((c.toList.drop o).take vs.length) (c.toList.drop (o + vs.length)) ?_ ?_ ?_
  · rw [← List.drop_drop, List.take_append_drop, List.take_append_drop]
  · rw [List.length_take]; omega
  · rw [List.length_take, List.length_drop]; omega
section
variable {P : Program}
theorem heir_ok {t tx e ty : TypeId} {i : TypeInfo} {z : Value} (ht : P.underlying t = some (.slice e)) (hi : P.info? e = some i) (hz : i.zero = some z) (hzs : z.cells.size = i.size)
    {r : Id} {y : AV} {q m nn : Nat} {hp : HP} {k : KV} {x : AV × HP} (h : heirF e i.size i.bytes r q m nn y hp k = some x) : ∃ v hp', k v hp' = some x ∧ ∀ {sts : List Site} φ (B : Bse sts) w (s : Value) (xv : Value) (news : List Value), WH φ B hp w → SgR φ r q m i.size s →
      VL φ y news → Src P i.size tx xv nn news w →
      ∃ ψ v' w', (Builtin.append_ #[t, tx] ty #[s, xv]).run P w = .ok v' w' ∧ VR ψ v v' ∧ StH φ hp w ψ hp' w' ∧ WH ψ B hp' w' := by
  cases hp with
  | mk mem nx =>
  have h' : (match last nx with
    | true => none
    | false => onRow mem r fun t gr fz ro cells => match ro with
      | true => none
      | false => match okF fz (Nat.add q (Nat.mul m i.size)) with
        | false => none
        | true => match Nat.beq t e with
          | false => none
          | true => match Nat.ble (Nat.mul (Nat.mul 2 (Nat.add m nn)) i.bytes) 281474976710656 with
              | false => none
              | true => match Nat.ble (Nat.add m nn) 1000000000000 with
                | false => none
                | true => match Nat.beq nn 0 with
                  | true => none
                  | false => oldsF cells q m i.size fun olds => k (.sg nx 0 (Nat.add m nn) i.size) (.mk ((mem.del r).set nx (.row e true (fz.map fun z => Nat.sub z q) false (olds.app y))) (inc nx)) : R) = some x := h
  split at h'
  · cases h'
  rename_i hl
  obtain ⟨t1, gr, fz, ro, cells, hm, h2⟩ := onRow_some h'
  cases ro with
  | true => cases h2
  | false =>
  simp only at h2
  split at h2
  · cases h2
  rename_i hfz
  split at h2
  · cases h2
  rename_i hte
  split at h2
  · cases h2
  rename_i hb
  split at h2
  · cases h2
  rename_i hmm
  split at h2
  · cases h2
  rename_i hnn
  have hte' : t1 = e := Nat.eq_of_beq_eq_true hte
  have hb' : 2 * (m + nn) * i.bytes ≤ 281474976710656 := Nat.le_of_ble_eq_true hb
  have hm' : m + nn ≤ 1000000000000 := Nat.le_of_ble_eq_true hmm
  have hnn' : nn ≠ 0 := fun e => by subst e; cases hnn
  have hfz' : okF fz (q + m * i.size) = true := hfz
  subst hte'
  have hold0 : ∃ olds, k (.sg nx 0 (Nat.add m nn) i.size) (.mk ((mem.del r).set nx (.row t1 true (fz.map fun z => Nat.sub z q) false (olds.app y))) (inc nx)) = some x ∧ ((m = 0 ∧ olds = .nil) ∨ (cells.len = q + m * i.size ∧ olds = cells.drop q)) := by
    unfold oldsF at h2
    split at h2
    · rename_i h0
      exact ⟨_, h2, .inl ⟨Nat.eq_of_beq_eq_true h0, rfl⟩⟩
    · split at h2
      · rename_i h0
        exact ⟨_, h2, .inr ⟨Nat.eq_of_beq_eq_true h0, rfl⟩⟩
      · cases h2
  obtain ⟨olds, h3, hold1⟩ := hold0
  refine ⟨_, _, h3, fun φ B w s xv news hw hs hy hsrc => ?_⟩
  obtain ⟨g, o, c, hg, e0, hmc, hK⟩ := hs
  subst e0
  obtain ⟨ca, pre, l, rest, mk, e1, e2, e3, e4, e5, e6, e7⟩ := RW.row (WR.rw hw) hm hg
  have hnl := hsrc.newsLen
  have hca : ca.toList.length = g.2.1 := by rw [Array.length_toList, e5]
  have hos : ∃ os : List Value, VL φ olds os ∧ os.length = m * i.size ∧ (m ≠ 0 → (ca.toList.drop (g.2.2 + q)).take (m * i.size) = os ∧ ∀ j v, os[j]? = some v → w.cell? ⟨g.1, g.2.2 + q + j, none⟩ = some v) := by
    rcases hold1 with ⟨rfl, rfl⟩ | ⟨hcl, rfl⟩
    · exact ⟨[], rfl, by simp, fun h => absurd rfl h⟩
    · have hll : l.length = q + m * i.size := (VL.len e3).trans hcl
      refine ⟨l.drop q, VL.drop q e3, by rw [List.length_drop]; omega, fun _ => ⟨?_, fun j v hv => ?_⟩⟩
      · rw [e2, ← e6, ← List.drop_drop, List.drop_left, List.drop_append_of_le_length (by omega), List.take_append_of_le_length (by rw [List.length_drop]; omega), List.take_of_length_le (by rw [List.length_drop]; omega)]
      · rw [Nat.add_assoc]
        refine cell_row e1 e2 e6 ?_
        rw [List.getElem?_drop] at hv
        exact hv
  obtain ⟨os, ho1, ho2, ho3⟩ := hos
  by_cases hroom : m + nn ≤ c
  · have hK' : o = g.2.2 + q ∧ o + c * i.size = g.2.1 := hK.resolve_right fun h => by omega
    obtain ⟨rfl, hK2⟩ := hK'
    have hle : (m + nn) * i.size ≤ c * i.size := Nat.mul_le_mul_right _ hroom
    rw [Nat.add_mul] at hle
    have hrun := run_append_room_src (P := P) w t tx ty t1 i ht hi g.1 (g.2.2 + q) m c xv nn news hsrc hroom (fun j hj => ?_) (fun j hj => ?_)
    · obtain ⟨m1, m2, m3, m4⟩ := setCells_meta g.1 news (g.2.2 + q + m * i.size) w
      have hat := setCells_row g.1 t1 mk news (g.2.2 + q + m * i.size) w ca e1
      have hset := setManyA_mid (vs := news) (o := g.2.2 + q + m * i.size) (c := ca) (by omega)
      have htake : ca.toList.take (g.2.2 + q + m * i.size) = ca.toList.take (g.2.2 + q) ++ os := by
        rw [List.take_add]
        congr 1
        by_cases h0 : m = 0
        · subst h0
          rw [Nat.zero_mul] at ho2 ⊢
          rw [List.length_eq_zero_iff.1 ho2]; rfl
        · exact (ho3 h0).1
      rw [htake] at hset
      obtain ⟨h3, h4⟩ := WR.heir hw hl (kb := (g.2.1, g.2.2 + q)) (y := .row t1 true (fz.map fun z => Nat.sub z q) false (olds.app y)) hm rfl hg m1 m2 m3 m4 (fun k hk => setCells_other g.1 news _ w k hk) hat
        ⟨_, ca.toList.take (g.2.2 + q), os ++ news, ca.toList.drop (g.2.2 + q + m * i.size + news.length), mk, rfl, by rw [hset]; simp, VL.app ho1 hy, (fun h => by cases h), by rw [setManyA_size]; exact e5, by rw [List.length_take]; show min _ _ = g.2.2 + q; omega, by
          cases fz with
          | none => cases hfz'
          | some zz =>
            intro i' h1 h2 h3
            have := e7 i' h1 h2 h3
            show i' < g.2.2 + q + (zz - q)
            omega⟩
      exact ⟨_, _, _, hrun, ⟨(g.1, g.2.1, g.2.2 + q), c, ext_same φ nx _, rfl, hroom, by show g.2.2 + q + 0 + c * i.size = g.2.1; omega⟩, h4, h3⟩
    · rw [cell_of_row w g.1 _ ca t1 mk e1]
      have : g.2.2 + q + m * i.size + j < ca.size := by omega
      simp [this]
    · have hlt : g.2.2 + q + m * i.size + j < g.2.1 := by omega
      have hno := okF_not (i := g.2.2 + q + m * i.size + j) hfz' e7 hlt (by omega)
      unfold World.frozen?
      rw [e1]
      simp only [Bool.and_eq_false_iff, decide_eq_false_iff_not]
      by_cases h1 : mk.1 ≤ g.2.2 + q + m * i.size + j
      · exact .inr fun h2 => hno ⟨h1, h2⟩
      · exact .inl h1
  · have hcap : c < m + nn := by omega
    have hfit : Builtin.nextslicecap (m + nn) c * i.bytes ≤ 281474976710656 := Nat.le_trans (Nat.mul_le_mul_right _ (nextslicecap_le hcap)) hb'
    have hcell : ∀ j v, os[j]? = some v → w.drew.cell? ((⟨g.1, o, none⟩ : Addr).add j) = some v := fun j v hv => by
      have h0 : m ≠ 0 := fun e => by subst e; rw [Nat.zero_mul] at ho2; rw [List.length_eq_zero_iff.1 ho2] at hv; simp at hv
      have hK' : o = g.2.2 + q ∧ o + c * i.size = g.2.1 := hK.resolve_right fun h => h0 h.1
      rw [add_lit, hK'.1]
      simpa using (ho3 h0).2 j v hv
    have hold := run_firstCells_some (P := P) w.drew i.size m ⟨g.1, o, none⟩ m c os ho2 hcell
    have hrun := run_append_grow_src (P := P) w t tx ty t1 i z ht hi hz (some ⟨g.1, o, none⟩) m c os hold xv nn news hsrc hcap (by omega) hfit
    have hgc := grownCap_ge w (m + nn) c t1
    generalize grownCap w (m + nn) c t1 = gc at hrun hgc
    obtain ⟨hw1, hs1⟩ := WR.drew hw
    obtain ⟨hw2, hs2⟩ := WR.del hw1 hm hg
    have hK2 : ((os ++ news).toArray ++ Builtin.zeroCells z.cells (gc - (m + nn))).size = gc * i.size := by
      rw [Array.size_append, size_zeroCells, hzs, List.size_toArray, List.length_append, ho2, hnl, ← Nat.add_mul, ← Nat.add_mul]
      congr 1
      omega
    obtain ⟨h3, h4⟩ := WR.new hw2 hl (x := .row t1 true (fz.map fun z => Nat.sub z q) false (olds.app y)) (o := .cells ((os ++ news).toArray ++ Builtin.zeroCells z.cells (gc - (m + nn))) t1) (K := (gc * i.size, 0))
      ⟨_, [], os ++ news, (Builtin.zeroCells z.cells (gc - (m + nn))).toList, (0, 0), rfl, by simp, VL.app ho1 hy, (fun h => by cases h), hK2, rfl, by
        cases fz with
        | none => trivial
        | some _ => exact fun i _ _ h => absurd h (Nat.not_lt_zero i)⟩ (.alloc _ _)
    exact ⟨_, _, _, hrun, ⟨(w.drew.heap.size, gc * i.size, 0), gc, ext_same φ nx _, rfl, hgc, by simp⟩, (hs1.trans hs2).trans h4, h3⟩
end
end Go.Proofs.YtknjkljigmepjaaGreatDoor.Clo
end
section
namespace Go.Proofs.YtknjkljigmepjaaGreatDoor.Clo
open Go.RowKit
set_option linter.unusedVariables false
set_option linter.unusedSimpArgs false
variable [Tabs]
noncomputable def roomF (size : Nat) (r : Id) (q m c nn : Nat) (y : AV) (hp : HP) (k : KV) : R :=
  hp.on fun mem nx => onRow mem r fun t gr fz ro cells => match ro with
    | true => none
    | false => match okF fz (Nat.add q (Nat.mul m size)) with
      | false => none
      | true => match Nat.ble (Nat.add (Nat.add q (Nat.mul m size)) (Nat.mul nn size)) cells.len with
        | false => none
        | true => k (.sl r q (Nat.add m nn) (some c)) (.mk (mem.set r (.row t gr fz false (y.setMany (Nat.add q (Nat.mul m size)) cells))) nx)
noncomputable def roomG (size : Nat) (r : Id) (q m nn : Nat) (y : AV) (hp : HP) (k : KV) (els : R) : R :=
  hp.on fun mem nx => onRow mem r fun t gr fz ro cells => match ro with
    | true => els
    | false => match okF fz (Nat.add q (Nat.mul m size)) with
      | false => els
      | true => match Nat.beq size 0 with
        | true => els
        | false => match Nat.ble (Nat.add (Nat.add q (Nat.mul m size)) (Nat.mul nn size)) cells.len with
          | false => els
          | true => k (.sg r q (Nat.add m nn) size) (.mk (mem.set r (.row t gr fz false (y.setMany (Nat.add q (Nat.mul m size)) cells))) nx)
noncomputable def appF (e : TypeId) (size bytes : Nat) (a : AV) (nn : Nat) (y : AV) (hp : HP) (k : KV) : R := match a with
  | .sn => match Nat.beq nn 0 with
    | true => k .sn hp
    | false => growF e size bytes .nil y nn hp k
  | .sl r q m (some c) => match Nat.ble (Nat.add m nn) c with
    | true => roomF size r q m c nn y hp k
    | false => srcF size (.sl r q m (some c)) hp fun _ olds => growF e size bytes olds y (Nat.add m nn) hp k
  | .sl r q m none => match Nat.beq nn 0 with
    | true => k (.sl r q m none) hp
    | false => none
  | .sg r q m z => match Nat.beq z size with
    | false => none
    | true => match Nat.beq nn 0 with
      | true => k (.sg r q m z) hp
      | false => roomG size r q m nn y hp k (heirF e size bytes r q m nn y hp k)
  | .se r q z => match Nat.beq nn 0 with
    | true => k (.se r q z) hp
    | false => match Nat.beq z size, Nat.beq size 0 with
      | true, false => heirF e size bytes r q 0 nn y hp k
      | _, _ => none
  | _ => none
section
variable {P : Program}
theorem room_ok {t tx e ty : TypeId} {i : TypeInfo} (ht : P.underlying t = some (.slice e)) (hi : P.info? e = some i)
    {r : Id} {y : AV} {q m c nn : Nat} {hp : HP} {k : KV} {x : AV × HP} (hroom : m + nn ≤ c) (h : roomF i.size r q m c nn y hp k = some x) : ∃ v hp', k v hp' = some x ∧ ∀ {sts : List Site} φ (B : Bse sts) w (s : Value) (xv : Value) (news : List Value), WH φ B hp w → VR φ (.sl r q m (some c)) s →
      VL φ y news → Src P i.size tx xv nn news w →
      ∃ ψ v' w', (Builtin.append_ #[t, tx] ty #[s, xv]).run P w = .ok v' w' ∧ VR ψ v v' ∧ StH φ hp w ψ hp' w' ∧ WH ψ B hp' w' := by
  cases hp with
  | mk mem nx =>
  obtain ⟨t1, gr, fz, ro, cells, hm, h2⟩ := onRow_some (show onRow mem r _ = some x from h)
  cases ro with
  | true => cases h2
  | false =>
  simp only at h2
  split at h2
  · cases h2
  rename_i hfz
  split at h2
  · cases h2
  rename_i hln
  have hfz' : okF fz (q + m * i.size) = true := hfz
  have hln' : q + m * i.size + nn * i.size ≤ cells.len := Nat.le_of_ble_eq_true hln
  refine ⟨_, _, h2, fun φ B w s xv news hw hs hy hsrc => ?_⟩
  obtain ⟨g, c', hg, e0, hmc, hK⟩ := hs
  have hK' := hK c rfl
  subst e0 hK'
  have hnl := hsrc.newsLen
  obtain ⟨ca, pre, l, rest, mk, e1, e2, e3, _, e5, hb, e6⟩ := RW.row (WR.rw hw) hm hg
  have hll : l.length = cells.len := VL.len e3
  obtain ⟨s1, s2, s3⟩ := WR.store (P := P) hw hm hg hy (o := q + m * i.size) (by omega) hfz' hsrc.one
  have hrun := run_append_room_src (P := P) w t tx ty e i ht hi g.1 (g.2.2 + q) m c' xv nn news hsrc hroom (fun j hj => ?_) (fun j hj => ?_)
  · rw [← Nat.add_assoc] at s2 s3
    exact ⟨φ, _, _, hrun, ⟨g, c', hg, rfl, hroom, fun _ h => by cases h; rfl⟩, s3, s2⟩
  · have hv : l[q + m * i.size + j]? = some (l[q + m * i.size + j]'(by omega)) := List.getElem?_eq_getElem (by omega)
    rw [show g.2.2 + q + m * i.size + j = g.2.2 + (q + m * i.size + j) from by omega, cell_row e1 e2 hb hv]; rfl
  · have hlt : g.2.2 + q + m * i.size + j < g.2.1 := by rw [← e5, ← Array.length_toList, e2, List.length_append, List.length_append]; omega
    have hno := okF_not (i := g.2.2 + q + m * i.size + j) hfz' e6 hlt (by omega)
    unfold World.frozen?
    rw [e1]
    simp only [Bool.and_eq_false_iff, decide_eq_false_iff_not]
    by_cases h1 : mk.1 ≤ g.2.2 + q + m * i.size + j
    · exact .inr fun h2 => hno ⟨h1, h2⟩
    · exact .inl h1
theorem roomG_ok {t tx e ty : TypeId} {i : TypeInfo} (ht : P.underlying t = some (.slice e)) (hi : P.info? e = some i)
    {r : Id} {y : AV} {q m nn : Nat} {hp : HP} {k : KV} {els : R} {x : AV × HP} (h : roomG i.size r q m nn y hp k els = some x) : els = some x ∨ ∃ v hp', k v hp' = some x ∧ ∀ {sts : List Site} φ (B : Bse sts) w (s : Value) (xv : Value) (news : List Value), WH φ B hp w → VR φ (.sg r q m i.size) s →
      VL φ y news → Src P i.size tx xv nn news w →
      ∃ ψ v' w', (Builtin.append_ #[t, tx] ty #[s, xv]).run P w = .ok v' w' ∧ VR ψ v v' ∧ StH φ hp w ψ hp' w' ∧ WH ψ B hp' w' := by
  cases hp with
  | mk mem nx =>
  obtain ⟨t1, gr, fz, ro, cells, hm, h2⟩ := onRow_some (show onRow mem r _ = some x from h)
  cases ro with
  | true => exact .inl h2
  | false =>
  simp only at h2
  split at h2
  · exact .inl h2
  rename_i hfz
  split at h2
  · exact .inl h2
  rename_i hsz
  split at h2
  · exact .inl h2
  rename_i hln
  have hfz' : okF fz (q + m * i.size) = true := hfz
  have hln' : q + m * i.size + nn * i.size ≤ cells.len := Nat.le_of_ble_eq_true hln
  have hpos : 0 < i.size := Nat.pos_of_ne_zero fun e => by rw [e] at hsz; cases hsz
  refine .inr ⟨_, _, h2, fun φ B w s xv news hw hs hy hsrc => ?_⟩
  obtain ⟨g, c', hg, e0, hmc, hK⟩ := hs
  subst e0
  have hnl := hsrc.newsLen
  obtain ⟨ca, pre, l, rest, mk, e1, e2, e3, _, e5, hb, e6⟩ := RW.row (WR.rw hw) hm hg
  have hll : l.length = cells.len := VL.len e3
  have hlen : ca.size = pre.length + (l.length + rest.length) := by rw [← Array.length_toList, e2, List.length_append, List.length_append]
  have hroom : m + nn ≤ c' := by
    have h1 : (m + nn) * i.size ≤ c' * i.size := by rw [Nat.add_mul]; omega
    exact Nat.le_of_mul_le_mul_right h1 hpos
  obtain ⟨s1, s2, s3⟩ := WR.store (P := P) hw hm hg hy (o := q + m * i.size) (by omega) hfz' hsrc.one
  have hrun := run_append_room_src (P := P) w t tx ty e i ht hi g.1 (g.2.2 + q) m c' xv nn news hsrc hroom (fun j hj => ?_) (fun j hj => ?_)
  · rw [← Nat.add_assoc] at s2 s3
    exact ⟨φ, _, _, hrun, ⟨g, c', hg, rfl, hroom, hK⟩, s3, s2⟩
  · have hv : l[q + m * i.size + j]? = some (l[q + m * i.size + j]'(by omega)) := List.getElem?_eq_getElem (by omega)
    rw [show g.2.2 + q + m * i.size + j = g.2.2 + (q + m * i.size + j) from by omega, cell_row e1 e2 hb hv]; rfl
  · have hlt : g.2.2 + q + m * i.size + j < g.2.1 := by rw [← e5, ← Array.length_toList, e2, List.length_append, List.length_append]; omega
    have hno := okF_not (i := g.2.2 + q + m * i.size + j) hfz' e6 hlt (by omega)
    unfold World.frozen?
    rw [e1]
    simp only [Bool.and_eq_false_iff, decide_eq_false_iff_not]
    by_cases h1 : mk.1 ≤ g.2.2 + q + m * i.size + j
    · exact .inr fun h2 => hno ⟨h1, h2⟩
    · exact .inl h1
theorem app_ok {t tx e ty : TypeId} {i : TypeInfo} {z : Value} (ht : P.underlying t = some (.slice e)) (hi : P.info? e = some i) (hz : i.zero = some z) (hzs : z.cells.size = i.size)
    {a y : AV} {nn : Nat} {hp : HP} {k : KV} {x : AV × HP} (h : appF e i.size i.bytes a nn y hp k = some x) : ∃ v hp', k v hp' = some x ∧ ∀ {sts : List Site} φ (B : Bse sts) w (s : Value) (xv : Value) (news : List Value), WH φ B hp w → VR φ a s →
      VL φ y news → Src P i.size tx xv nn news w →
      ∃ ψ v' w', (Builtin.append_ #[t, tx] ty #[s, xv]).run P w = .ok v' w' ∧ VR ψ v v' ∧ StH φ hp w ψ hp' w' ∧ WH ψ B hp' w' := by
  unfold appF at h
  split at h
  · split at h
    · rename_i hn
      have hn' := Nat.eq_of_beq_eq_true hn
      subst hn'
      refine ⟨_, _, h, fun φ B w s xv news hw hs hy hsrc => ?_⟩
      have hs' : s = .slice none 0 0 := hs
      subst hs'
      have hnil : news = [] := List.length_eq_zero_iff.1 (by have := hsrc.newsLen; omega)
      subst hnil
      exact ⟨φ, _, _, run_append_nothing w t tx ty e i ht hi none 0 0 (Nat.le_refl _) xv hsrc, rfl, Step.refl, hw⟩
    · rename_i hn
      obtain ⟨v, hp', h1, h2⟩ := grow_ok (P := P) (tx := tx) (ty := ty) ht hi hz hzs h
      refine ⟨v, hp', h1, fun φ B w s xv news hw hs hy hsrc => ?_⟩
      have hs' : s = .slice none 0 0 := hs
      subst hs'
      have hn' : nn ≠ 0 := fun e => by subst e; exact absurd hn (by decide)
      exact h2 φ B w none 0 0 nn xv [] news hw (by omega) (by omega) (run_firstCells_none w.drew i.size 0 0 0) (by simp) rfl hy hsrc
  · rename_i r q m c
    split at h
    · rename_i hr
      exact room_ok ht hi (Nat.le_of_ble_eq_true hr) h
    · rename_i hr
      obtain ⟨m', olds, h1, h2⟩ := srcF_some (P := P) (tx := t) h
      obtain ⟨v, hp', h3, h4⟩ := grow_ok (P := P) (tx := tx) (ty := ty) ht hi hz hzs h1
      refine ⟨v, hp', h3, fun φ B w s xv news hw hs hy hsrc => ?_⟩
      obtain ⟨os, o1, o2⟩ := h2 φ B w s hw hs (.inl ⟨e, ht⟩)
      obtain ⟨g, c', hg, e0, hmc, hK⟩ := hs
      have hK' := hK c rfl
      subst e0 hK'
      have hmm : m' = m := by
        have e1 := o1.len w
        have e2 : (Builtin.lenOf (.slice (some ⟨g.1, g.2.2 + q, none⟩) m c')).run P w = .ok m w := rfl
        rw [e2] at e1
        injection e1 with e1
        exact e1.symm
      subst hmm
      have hcap : c' < m' + nn := Nat.lt_of_not_le fun hle => by
        have := Nat.ble_eq_true_of_le hle
        exact absurd (hr.symm.trans this) (by decide)
      exact h4 φ B w _ m' c' nn xv os news hw rfl hcap o1.cellsD o1.newsLen o2 hy hsrc
  · rename_i r q m
    split at h
    · rename_i hn
      have hn' := Nat.eq_of_beq_eq_true hn
      subst hn'
      refine ⟨_, _, h, fun φ B w s xv news hw hs hy hsrc => ?_⟩
      have hnil : news = [] := List.length_eq_zero_iff.1 (by have := hsrc.newsLen; omega)
      subst hnil
      have hs' := hs
      obtain ⟨g, c', hg, e0, hmc, hK⟩ := hs
      subst e0
      exact ⟨φ, _, _, run_append_nothing w t tx ty e i ht hi _ m c' hmc xv hsrc, hs', Step.refl, hw⟩
    · cases h
  · rename_i r q m zz
    split at h
    · cases h
    rename_i hzz
    have hzz' := Nat.eq_of_beq_eq_true hzz
    subst hzz'
    have els : heirF e i.size i.bytes r q m nn y hp k = some x → ∃ v hp', k v hp' = some x ∧ ∀ {sts : List Site} φ (B : Bse sts) w (s : Value) (xv : Value) (news : List Value), WH φ B hp w → VR φ (.sg r q m i.size) s →
        VL φ y news → Src P i.size tx xv nn news w →
        ∃ ψ v' w', (Builtin.append_ #[t, tx] ty #[s, xv]).run P w = .ok v' w' ∧ VR ψ v v' ∧ StH φ hp w ψ hp' w' ∧ WH ψ B hp' w' := by
      intro h9
      obtain ⟨v, hp', h1, h2⟩ := heir_ok (P := P) (tx := tx) (ty := ty) ht hi hz hzs h9
      exact ⟨v, hp', h1, fun φ B w s xv news hw hs hy hsrc => h2 φ B w s xv news hw (by obtain ⟨g, c', hg, e0, hmc, hK⟩ := hs; exact ⟨g, _, c', hg, e0, hmc, .inl ⟨rfl, hK⟩⟩) hy hsrc⟩
    split at h
    · rename_i hn
      have hn' := Nat.eq_of_beq_eq_true hn
      subst hn'
      refine ⟨_, _, h, fun φ B w s xv news hw hs hy hsrc => ?_⟩
      have hnil : news = [] := List.length_eq_zero_iff.1 (by have := hsrc.newsLen; omega)
      subst hnil
      have hs' := hs
      obtain ⟨g, c', hg, e0, hmc, hK⟩ := hs
      subst e0
      exact ⟨φ, _, _, run_append_nothing w t tx ty e i ht hi _ m c' hmc xv hsrc, hs', Step.refl, hw⟩
    · rcases roomG_ok (tx := tx) (ty := ty) ht hi h with h1 | h1
      · exact els h1
      · exact h1
  · rename_i r q zz
    split at h
    · rename_i hn
      have hn' := Nat.eq_of_beq_eq_true hn
      subst hn'
      refine ⟨_, _, h, fun φ B w s xv news hw hs hy hsrc => ?_⟩
      have hnil : news = [] := List.length_eq_zero_iff.1 (by have := hsrc.newsLen; omega)
      subst hnil
      have hs' := hs
      obtain ⟨g, o, c', hg, e0, hK⟩ := hs
      subst e0
      exact ⟨φ, _, _, run_append_nothing w t tx ty e i ht hi _ 0 c' (Nat.zero_le _) xv hsrc, hs', Step.refl, hw⟩
    · split at h
      · rename_i hzz hz0
        have hzz' := Nat.eq_of_beq_eq_true hzz
        subst hzz'
        have hz0' : i.size ≠ 0 := fun e => by rw [e] at hz0; cases hz0
        obtain ⟨v, hp', h1, h2⟩ := heir_ok (P := P) (tx := tx) (ty := ty) ht hi hz hzs h
        refine ⟨v, hp', h1, fun φ B w s xv news hw hs hy hsrc => h2 φ B w s xv news hw ?_ hy hsrc⟩
        obtain ⟨g, o, c', hg, e0, hK⟩ := hs
        refine ⟨g, o, c', hg, e0, Nat.zero_le _, ?_⟩
        rcases hK with h9 | h9 | h9
        · exact absurd h9 hz0'
        · exact .inr ⟨rfl, h9⟩
        · exact .inl h9
      · cases h
  · cases h
end
section
variable {P : Program} {G dt n : Nat} {ds : List (Option Nat)} {o : Oper}
theorem append_ok {s x : Operand} {t tx e : TypeId} {i : TypeInfo} {z : Value} (ho : o.op = .call { callee := .builtin .append, args := #[s, x], argTypes := #[t, tx] })
    (ht : P.underlying t = some (.slice e)) (hi : P.info? e = some i) (hz : i.zero = some z) (hzs : z.cells.size = i.size) (hk : (∃ e', P.underlying tx = some (.slice e')) ∨ P.underlying tx = some .string) :
    ValOk P G dt n ds o (fun E t0 hp k => srcF i.size ((opd G dt n ds x).run E t0) hp fun nn y => appF e i.size i.bytes ((opd G dt n ds s).run E t0) nn y hp k) := by
  intro E t0 hp k r hr
  obtain ⟨nn, y, h1, h2⟩ := srcF_some (P := P) (tx := tx) hr
  obtain ⟨v, hp', h3, h4⟩ := app_ok (P := P) (tx := tx) (ty := o.type) ht hi hz hzs h1
  refine ⟨v, hp', h3, fun φ B a w g1 g2 hw => ?_⟩
  have hx := g2 x (by rw [ho]; simp [Op.operands, Call.operands])
  have hs := g2 s (by rw [ho]; simp [Op.operands, Call.operands])
  obtain ⟨news, n1, n2⟩ := h2 φ B w (a.eval x) hw hx hk
  obtain ⟨ψ, v', w', e1, e2, e3, e4⟩ := h4 φ B w (a.eval s) (a.eval x) news hw hs n2 n1
  refine ⟨ψ, v', w', .inl ?_, e2, e3, e4⟩
  unfold execOp
  simp only [ho, resolve, invoke, builtin, Sem.run_bind, Sem.run_pure, Result.andThen_ok, List.map_toArray, List.map_cons, List.map_nil, e1]
end
end Go.Proofs.YtknjkljigmepjaaGreatDoor.Clo
end
section
namespace Go.Proofs.YtknjkljigmepjaaGreatDoor.Clo
open Go.RowKit
set_option linter.unusedVariables false
set_option linter.unusedSimpArgs false
variable [Tabs]
noncomputable def anySl (a : AV) (k : Id → Nat → Nat → R) : R := match a with
  | .sl r q m _ => k r q m
  | .sg r q m _ => k r q m
  | _ => none
theorem anySl_some {a : AV} {k : Id → Nat → Nat → R} {x : AV × HP} (h : anySl a k = some x) : ∃ r q m, k r q m = some x ∧ ∀ φ v, VR φ a v → ∃ (g : Plc) (c : Nat), φ r = some g ∧ v = .slice (some ⟨g.1, g.2.2 + q, none⟩) m c ∧ m ≤ c := by
  unfold anySl at h
  split at h
  · rename_i r q m c
    exact ⟨r, q, m, h, fun φ v ⟨g, c', h1, e, h2, _⟩ => ⟨g, c', h1, e, h2⟩⟩
  · rename_i r q m c
    exact ⟨r, q, m, h, fun φ v ⟨g, c', h1, e, h2, _⟩ => ⟨g, c', h1, e, h2⟩⟩
  · cases h
section
variable {P : Program} {G dt n : Nat} {ds : List (Option Nat)} {o : Oper}
theorem indexAddrG_ok {t el : TypeId} {x y : Operand} {i : TypeInfo} (ho : o.op = .indexAddr t x y) (hu : P.underlying t = some (.slice el)) (hi : P.info? el = some i) :
    PureOk P G dt n ds o (fun e t0 hp k => anySl ((opd G dt n ds x).run e t0) fun r q m => ((opd G dt n ds y).run e t0).on_i fun _ j => onNat j fun j => match Nat.blt j m with
      | true => k (.p r (Nat.add q (Nat.mul j i.size))) hp
      | false => none) :=
  .pure fun e t0 hp k r hr => by
    obtain ⟨b, q, m, h1, hb⟩ := anySl_some hr
    obtain ⟨kd, j, hj, h2⟩ := AV.on_i_some h1
    obtain ⟨j, rfl, h3⟩ := onNat_some h2
    split at h3
    · rename_i hlt
      have hlt' : j < m := by simpa [Nat.blt_eq] using hlt
      refine ⟨_, h3, fun φ a w hx => ?_⟩
      obtain ⟨g, c', hg, e1, _⟩ := hb φ _ ((hx x (by rw [ho]; simp [Op.operands, Call.operands])))
      have e2 : a.eval y = .int kd (j : Int) := by have := (hx y (by rw [ho]; simp [Op.operands, Call.operands])); rw [hj] at this; exact this
      refine ⟨.pointer (some ⟨g.1, g.2.2 + q + j * i.size, none⟩), ?_, g, hg, by rw [Nat.add_assoc]; rfl⟩
      unfold execOp
      rw [ho]
      simp only [Instr.indexAt, e1, e2, asIntOf, Sem.run_bind, Sem.run_pure, Result.andThen_ok, run_underlying hu]
      rw [if_pos ⟨Int.natCast_nonneg j, by omega⟩]
      simp [sizeOf, typeInfo, program, Sem.run, hi, add_lit]
    · cases h3
theorem indexAddrA_ok {t el : TypeId} {len : Nat} {x y : Operand} {i : TypeInfo} (ho : o.op = .indexAddr t x y) (hu : P.underlying t = some (.array len el)) (hi : P.info? el = some i) :
    PureOk P G dt n ds o (fun e t0 hp k => ((opd G dt n ds x).run e t0).on_p fun r q => ((opd G dt n ds y).run e t0).on_i fun _ j => onNat j fun j => match Nat.blt j len with
      | true => k (.p r (Nat.add q (Nat.mul j i.size))) hp
      | false => none) :=
  .pure fun e t0 hp k r hr => by
    obtain ⟨b, q, hb, h1⟩ := AV.on_p_some hr
    obtain ⟨kd, j, hj, h2⟩ := AV.on_i_some h1
    obtain ⟨j, rfl, h3⟩ := onNat_some h2
    split at h3
    · rename_i hlt
      have hlt' : j < len := by simpa [Nat.blt_eq] using hlt
      refine ⟨_, h3, fun φ a w hx => ?_⟩
      obtain ⟨g, hg, e1⟩ : ∃ g, φ b = some g ∧ a.eval x = .pointer (some ⟨g.1, g.2.2 + q, none⟩) := by have := (hx x (by rw [ho]; simp [Op.operands, Call.operands])); rw [hb] at this; exact this
      have e2 : a.eval y = .int kd (j : Int) := by have := (hx y (by rw [ho]; simp [Op.operands, Call.operands])); rw [hj] at this; exact this
      refine ⟨.pointer (some ⟨g.1, g.2.2 + q + j * i.size, none⟩), ?_, g, hg, by rw [Nat.add_assoc]; rfl⟩
      unfold execOp
      rw [ho]
      simp only [Instr.indexAt, Instr.sureAddr, e1, e2, asIntOf, Sem.run_bind, Sem.run_pure, Result.andThen_ok, run_underlying hu]
      rw [if_pos ⟨Int.natCast_nonneg j, by omega⟩]
      simp [sizeOf, typeInfo, program, Sem.run, hi, add_lit]
    · cases h3
end
end Go.Proofs.YtknjkljigmepjaaGreatDoor.Clo
end
section
namespace Go.Proofs.YtknjkljigmepjaaGreatDoor.Clo
open Go.RowKit
set_option linter.unusedVariables false
set_option linter.unusedSimpArgs false
variable [Tabs]
theorem foldl_setMany (off : Nat) : ∀ (l : List Value) (m : Nat) (cells : Array Value), (l.zipIdx m).foldl (fun cs (p : Value × Nat) => cs.setIfInBounds (off + p.2) p.1) cells = setManyA l (off + m) cells
  | [], _, _ => rfl
  | v :: r, m, cells => by
    rw [List.zipIdx_cons, List.foldl_cons]
    exact foldl_setMany off r (m + 1) _
noncomputable def fillR (L : List (Nat × Nat × GV)) (e : Env) (t : Tr) : AV → (AV → R) → R :=
  List.rec (motive := fun _ => AV → (AV → R) → R) (fun cells k => k cells) (fun p _ ih cells k => Option.rec (motive := fun _ => R) none (fun c => match Nat.beq c.len p.2.1 with
    | false => none
    | true => match Nat.ble (Nat.add p.1 p.2.1) cells.len with
      | false => none
      | true => ih (c.setMany p.1 cells) k) (p.2.2.run e t).cellsO) L
section
variable {P : Program} {G dt n : Nat} {ds : List (Option Nat)} {o : Oper}
noncomputable def plan (G dt n : Nat) (ds : List (Option Nat)) (place : Nat → Option (Nat × Nat)) : List (Nat × Operand) → Option (List (Nat × Nat × GV))
  | [] => some []
  | (i, x) :: r => match place i with
    | none => none
    | some (of, sz) => match plan G dt n ds place r with
      | none => none
      | some l => some ((of, sz, opd G dt n ds x) :: l)
theorem fillR_some {place : Nat → Option (Nat × Nat)} : ∀ {ps : List (Nat × Operand)} {L : List (Nat × Nat × GV)}, plan G dt n ds place ps = some L → ∀ {e : Env} {t : Tr} {cells : AV} {k : AV → R} {x : AV × HP}, fillR L e t cells k = some x →
    ∃ cells', k cells' = some x ∧ ∀ φ (ev : Operand → Value) (ca : Array Value), (∀ p ∈ ps, VR φ ((opd G dt n ds p.2).run e t) (ev p.2)) → VL φ cells ca.toList → ∃ ca', Instr.fill place ca (ps.map fun p => (p.1, ev p.2)) = some ca' ∧ VL φ cells' ca'.toList ∧ ca'.size = ca.size
  | [], L, hL, e, t, cells, k, x, h => by
    cases hL
    exact ⟨cells, h, fun φ ev ca _ hc => ⟨ca, rfl, hc, rfl⟩⟩
  | (i, y) :: r, L, hL, e, t, cells, k, x, h => by
    unfold plan at hL
    split at hL
    · cases hL
    rename_i of sz hp
    split at hL
    · cases hL
    rename_i l hl
    cases hL
    have h' : (Option.rec (motive := fun _ => R) none (fun c => match Nat.beq c.len sz with
      | false => none
      | true => match Nat.ble (Nat.add of sz) cells.len with
        | false => none
        | true => fillR l e t (c.setMany of cells) k) ((opd G dt n ds y).run e t).cellsO : R) = some x := h
    cases hc : ((opd G dt n ds y).run e t).cellsO with
    | none => rw [hc] at h'; cases h'
    | some c =>
    rw [hc] at h'
    simp only at h'
    split at h'
    · cases h'
    rename_i hsz
    split at h'
    · cases h'
    rename_i hle
    have hsz' : c.len = sz := Nat.eq_of_beq_eq_true hsz
    have hle' : of + sz ≤ cells.len := Nat.le_of_ble_eq_true hle
    obtain ⟨cells', h1, h2⟩ := fillR_some hl h'
    refine ⟨cells', h1, fun φ ev ca hx hca => ?_⟩
    obtain ⟨hv, _⟩ := AV.cellsO_ok hc (show VR φ _ (ev y) from hx (i, y) (by simp))
    have hlv : (ev y).cells.toList.length = sz := (VL.len hv).trans hsz'
    have hlv' : (ev y).cells.size = sz := by rw [← Array.length_toList]; exact hlv
    have hlc : ca.toList.length = cells.len := VL.len hca
    obtain ⟨l', e1, e2⟩ := VL.setMany hv hca (pre := []) (rest := []) (b := 0) (c := ca) (List.append_nil _).symm rfl (o := of) (by omega)
    rw [List.append_nil, List.nil_append, Nat.zero_add] at e1
    obtain ⟨ca', f1, f2, f3⟩ := h2 φ ev (setManyA (ev y).cells.toList of ca) (fun p hp => hx p (by simp [hp])) (by rw [e1]; exact e2)
    refine ⟨ca', ?_, f2, by rw [f3, setManyA_size]⟩
    have hfold : (ev y).cells.zipIdx.foldl (fun cs (p : Value × Nat) => cs.setIfInBounds (of + p.2) p.1) ca = setManyA (ev y).cells.toList of ca := by
      rw [← Array.foldl_toList, Array.toList_zipIdx]
      exact foldl_setMany of _ 0 ca
    have hca' : ca.size = cells.len := by rw [← Array.length_toList]; exact hlc
    rw [List.map_cons, Instr.fill]
    simp only [hp]
    rw [if_neg (by simp [hlv', hca']; omega)]
    exact (congrArg (fun q => Instr.fill place q (r.map fun p => (p.1, ev p.2))) hfold).trans f1
theorem parts_of {φ : Id → Option Plc} {e : Env} {t : Tr} {ev : Operand → Value} {op : Op} {ps : Array (Nat × Operand)} (hop : op.operands = (ps.toList.map (·.2)).toArray) (hx : OpsR G dt n ds φ e t ev op) : ∀ p ∈ ps.toList, VR φ ((opd G dt n ds p.2).run e t) (ev p.2) := fun p hp => hx p.2 (by
  rw [hop]
  simp only [List.mem_toArray]
  exact List.mem_map_of_mem hp)
theorem buildS_ok {t : TypeId} {parts : Array (Nat × Operand)} {fields : Array Field} {it : TypeInfo} {z : Value} {zc : AV} {places : List (Nat × Nat)} {L : List (Nat × Nat × GV)} (ho : o.op = .build t parts)
    (hu : P.underlying t = some (.struct fields)) (hit : P.info? t = some it) (hz : it.zero = some z) (hzc : (ofConst z).cellsO = some zc) (hpl : fields.toList.mapM (fun f => (P.info? f.type).map fun i => (f.offset, i.size)) = some places)
    (hL : plan G dt n ds (fun x => places[x]?) parts.toList = some L) :
    PureOk P G dt n ds o (fun e t0 hp k => fillR L e t0 zc fun c => k (.ag c) hp) :=
  .pure fun e t0 hp k r hr => by
    obtain ⟨cells', h1, h2⟩ := fillR_some hL hr
    refine ⟨_, h1, fun φ a w hx => ?_⟩
    obtain ⟨h3, _⟩ := AV.cellsO_ok hzc (ofConst_ok φ z)
    obtain ⟨ca', f1, f2, _⟩ := h2 φ a.eval z.cells (parts_of (by rw [ho]; rfl) hx) h3
    refine ⟨.agg ca', ?_, ca', rfl, f2⟩
    have hb : P.built t (parts.map fun (i, x) => (i, a.eval x)).toList = some ca' := by
      unfold Program.built
      simp only [hit, hu, hz, hpl]
      rw [Array.toList_map]
      simpa using f1
    unfold execOp
    simp only [ho, Sem.run_bind, run_build w t _ ca' hb, Result.andThen_ok]
    rfl
end
end Go.Proofs.YtknjkljigmepjaaGreatDoor.Clo
end
section
namespace Go.Proofs.YtknjkljigmepjaaGreatDoor.Clo
open Go.RowKit
set_option linter.unusedVariables false
set_option linter.unusedSimpArgs false
variable [Tabs]
section
variable {P : Program} {G dt n : Nat} {ds : List (Option Nat)} {o : Oper}
theorem buildA_ok {t el : TypeId} {len : Nat} {parts : Array (Nat × Operand)} {it i : TypeInfo} {z : Value} {zc : AV} {L : List (Nat × Nat × GV)} (ho : o.op = .build t parts)
    (hu : P.underlying t = some (.array len el)) (hit : P.info? t = some it) (hz : it.zero = some z) (hzc : (ofConst z).cellsO = some zc) (hi : P.info? el = some i)
    (hL : plan G dt n ds (fun x => some (x * i.size, i.size)) parts.toList = some L) :
    PureOk P G dt n ds o (fun e t0 hp k => fillR L e t0 zc fun c => k (.ag c) hp) :=
  .pure fun e t0 hp k r hr => by
    obtain ⟨cells', h1, h2⟩ := fillR_some hL hr
    refine ⟨_, h1, fun φ a w hx => ?_⟩
    obtain ⟨h3, _⟩ := AV.cellsO_ok hzc (ofConst_ok φ z)
    obtain ⟨ca', f1, f2, _⟩ := h2 φ a.eval z.cells (parts_of (by rw [ho]; rfl) hx) h3
    refine ⟨.agg ca', ?_, ca', rfl, f2⟩
    have hb : P.built t (parts.map fun (i, x) => (i, a.eval x)).toList = some ca' := by
      unfold Program.built
      simp only [hit, hu, hz, hi]
      rw [Array.toList_map]
      simpa using f1
    unfold execOp
    simp only [ho, Sem.run_bind, run_build w t _ ca' hb, Result.andThen_ok]
    rfl
end
end Go.Proofs.YtknjkljigmepjaaGreatDoor.Clo
end
section
namespace Go.Proofs.YtknjkljigmepjaaGreatDoor.Clo
open Go.RowKit
set_option linter.unusedVariables false
set_option linter.unusedSimpArgs false
variable [Tabs]
noncomputable def dropN (n : Nat) : List Nat → List Nat :=
  Nat.rec (motive := fun _ => List Nat → List Nat) (fun l => l) (fun _ ih l => List.rec (motive := fun _ => List Nat) [] (fun _ r _ => ih r) l) n
theorem dropN_eq : ∀ (n : Nat) (l : List Nat), dropN n l = l.drop n
  | 0, l => rfl
  | n + 1, [] => rfl
  | n + 1, x :: l => dropN_eq n l
noncomputable def takeK (n : Nat) : List Nat → (List Nat → R) → R :=
  Nat.rec (motive := fun _ => List Nat → (List Nat → R) → R) (fun _ k => k []) (fun _ ih l k => List.rec (motive := fun _ => R) (k []) (fun x r _ => ih r fun y => k (x :: y)) l) n
theorem takeK_eq : ∀ (n : Nat) (l : List Nat) (k : List Nat → R), takeK n l k = k (l.take n)
  | 0, l, k => rfl
  | n + 1, [], k => rfl
  | n + 1, x :: l, k => takeK_eq n l fun y => k (x :: y)
def BV (b : Option Value) (d j : Nat) : Prop := (b = none ∧ j = d) ∨ ∃ kd, b = some (.int kd (j : Int))
theorem bounds_run {P : Program} {w : World} (isSlice : Bool) {len cap l h : Nat} {low high : Option Value} (hl : BV low 0 l) (hh : BV high len h) (h1 : h ≤ cap) (h2 : l ≤ h) :
    (Instr.sliceBounds isSlice len cap low high none).run P w = .ok (l, h, cap) w := by
  have e1 : ∀ kd code, (Instr.sliceBound (.int kd (h : Int)) cap code).run P w = .ok h w := fun kd code => by
    rw [run_sliceBound w kd h cap code (by omega) (by omega)]; simp
  have e2 : ∀ kd code, (Instr.sliceBound (.int kd (l : Int)) h code).run P w = .ok l w := fun kd code => by
    rw [run_sliceBound w kd l h code (by omega) (by omega)]; simp
  rcases hl with ⟨rfl, rfl⟩ | ⟨kl, rfl⟩ <;> rcases hh with ⟨rfl, rfl⟩ | ⟨kh, rfl⟩ <;> simp [Instr.sliceBounds, e1, e2]
noncomputable def boundR (g : Option GV) (d : Nat) (e : Env) (t : Tr) (k : Nat → R) : R := match g with
  | none => k d
  | some g => (g.run e t).on_i fun _ j => onNat j k
section
variable {P : Program} {G dt n : Nat} {ds : List (Option Nat)} {o : Oper}
theorem boundR_some {b : Option Operand} {d : Nat} {e : Env} {t : Tr} {k : Nat → R} {x : AV × HP} (h : boundR (b.map (opd G dt n ds)) d e t k = some x) : ∃ j, k j = some x ∧ ∀ φ (ev : Operand → Value), (∀ y, b = some y → VR φ ((opd G dt n ds y).run e t) (ev y)) → BV (b.map ev) d j := by
  cases b with
  | none => exact ⟨d, h, fun φ ev _ => .inl ⟨rfl, rfl⟩⟩
  | some y =>
    obtain ⟨kd, j, hj, h1⟩ := AV.on_i_some (show ((opd G dt n ds y).run e t).on_i (fun _ j => onNat j k) = some x from h)
    obtain ⟨j, rfl, h2⟩ := onNat_some h1
    exact ⟨j, h2, fun φ ev hx => .inr ⟨kd, by have := hx y rfl; rw [hj] at this; exact congrArg some this⟩⟩
theorem sliceS_ok {t : TypeId} {x : Operand} {low high : Option Operand} (ho : o.op = .slice t x low high none) (hu : P.underlying t = some .string) :
    PureOk P G dt n ds o (fun e t0 hp k => ((opd G dt n ds x).run e t0).on_s fun l => boundR (high.map (opd G dt n ds)) (lenL l) e t0 fun h => boundR (low.map (opd G dt n ds)) 0 e t0 fun b =>
      match Nat.ble h (lenL l) with
      | false => none
      | true => match Nat.ble b h with
        | false => none
        | true => takeK (Nat.sub h b) (dropN b l) fun y => k (.s y) hp) :=
  .pure fun e t0 hp k r hr => by
    obtain ⟨l, hl, h1⟩ := AV.on_s_some hr
    obtain ⟨h, h2, hh⟩ := boundR_some h1
    obtain ⟨b, h3, hb⟩ := boundR_some h2
    split at h3
    · cases h3
    rename_i c1
    split at h3
    · cases h3
    rename_i c2
    rw [takeK_eq, dropN_eq] at h3
    refine ⟨_, h3, fun φ a w hx => ?_⟩
    obtain ⟨e1, b1⟩ : a.eval x = .string (bytesOf l) ∧ ∀ x ∈ l, x < 256 := by have := hx x (by rw [ho]; simp [Op.operands, Call.operands]); rw [hl] at this; exact this
    have hz : (bytesOf l).size = lenL l := by rw [bytes_size, lenL_eq]
    have c1' : h ≤ lenL l := Nat.le_of_ble_eq_true c1
    have c2' : b ≤ h := Nat.le_of_ble_eq_true c2
    have hrun := bounds_run (P := P) (w := w) false (hb φ a.eval (fun y h => hx y (by rw [ho, h]; simp [Op.operands, Call.operands]))) (hh φ a.eval (fun y h => hx y (by rw [ho, h]; simp [Op.operands, Call.operands]))) c1' c2'
    refine ⟨.string ((bytesOf l).extract b h), ?_, ?_⟩
    · unfold execOp
      rw [ho]
      simp only [Instr.sliceAt, Instr.slice, e1, Sem.run_bind, run_underlying hu, Result.andThen_ok]
      rw [hz]
      simp [Instr.slice, run_underlying hu, hz, hrun]
    · rw [bytes_extract]
      exact ⟨rfl, fun y hy => b1 y (List.mem_of_mem_drop (List.mem_of_mem_take hy))⟩
end
end Go.Proofs.YtknjkljigmepjaaGreatDoor.Clo
end
section
namespace Go.Proofs.YtknjkljigmepjaaGreatDoor.Clo
open Go.RowKit
set_option linter.unusedVariables false
set_option linter.unusedSimpArgs false
variable [Tabs]
noncomputable def partF (size : Nat) (a : AV) (b h : Nat) (k : AV → R) : R := match a with
  | .sn => match Nat.ble h 0 with
    | true => k .sn
    | false => none
  | .sl r q m (some c) => match Nat.ble h c with
    | false => none
    | true => match Nat.beq c b with
      | true => k (.sl r q (Nat.sub h b) (some (Nat.sub c b)))
      | false => k (.sl r (Nat.add q (Nat.mul b size)) (Nat.sub h b) (some (Nat.sub c b)))
  | .sl r q m none => match Nat.ble h m with
    | false => none
    | true => match Nat.blt b m with
      | true => k (.sl r (Nat.add q (Nat.mul b size)) (Nat.sub h b) none)
      | false => match Nat.beq b 0 with
        | true => k (.sl r q h none)
        | false => k (.se r 0 0)
  | .sg r q m z => match Nat.beq z size with
    | false => none
    | true => match Nat.ble h m with
      | false => none
      | true => match Nat.blt b m with
        | true => k (.sg r (Nat.add q (Nat.mul b size)) (Nat.sub h b) z)
        | false => match Nat.beq b 0 with
          | true => k (.sg r q h z)
          | false => k (.se r (Nat.add q (Nat.mul b size)) z)
  | .se r q z => match Nat.ble h 0 with
    | false => none
    | true => k (.se r q z)
  | _ => none
theorem part_end {φ : Id → Option Plc} {r : Id} {g : Plc} (e1 : φ r = some g) (q c b d : Nat) : VR φ (.se r 0 0) (.slice (if c = b then (some ⟨g.1, g.2.2 + q, none⟩ : Option Addr) else (some (⟨g.1, g.2.2 + q, none⟩ : Addr)).map (·.add d)) 0 (c - b)) := by
  split
  · exact ⟨g, g.2.2 + q, _, e1, rfl, .inl rfl⟩
  · exact ⟨g, g.2.2 + q + d, c - b, e1, by simp only [Option.map_some, add_lit], .inl rfl⟩
theorem part_endZ {φ : Id → Option Plc} {r : Id} {g : Plc} (e1 : φ r = some g) {q c b z : Nat} (hb : b ≤ c) (hK : g.2.2 + q + c * z = g.2.1) : VR φ (.se r (q + b * z) z) (.slice (if c = b then (some ⟨g.1, g.2.2 + q, none⟩ : Option Addr) else (some (⟨g.1, g.2.2 + q, none⟩ : Addr)).map (·.add (b * z))) 0 (c - b)) := by
  split
  · rename_i h
    exact ⟨g, g.2.2 + q, _, e1, rfl, .inr (.inl (by omega))⟩
  · refine ⟨g, g.2.2 + q + b * z, c - b, e1, by simp only [Option.map_some, add_lit], .inr (.inr ⟨by omega, ?_⟩)⟩
    rw [← hK, Nat.add_assoc, ← Nat.add_mul]
    congr 2
    omega
theorem partF_some {size : Nat} {a : AV} {b h : Nat} {k : AV → R} {x : AV × HP} (hb : b ≤ h) (hh : partF size a b h k = some x) :
    ∃ v, k v = some x ∧ ∀ φ s, VR φ a s → ∃ (ad : Option Addr) (len cap : Nat), s = .slice ad len cap ∧ h ≤ cap ∧ VR φ v (.slice (if cap = b then ad else ad.map (·.add (b * size))) (h - b) (cap - b)) := by
  unfold partF at hh
  split at hh
  · split at hh
    · rename_i h0
      have h0' : h ≤ 0 := Nat.le_of_ble_eq_true h0
      refine ⟨_, hh, fun φ s hs => ⟨none, 0, 0, hs, h0', ?_⟩⟩
      have : h = 0 := by omega
      have : b = 0 := by omega
      subst_vars
      rfl
    · cases hh
  · rename_i r q m c
    split at hh
    · cases hh
    rename_i h0
    have h0' : h ≤ c := Nat.le_of_ble_eq_true h0
    split at hh
    · rename_i h1
      have h1' : c = b := Nat.eq_of_beq_eq_true h1
      refine ⟨_, hh, fun φ s ⟨g, c', e1, e2, e3, e4⟩ => ⟨_, _, _, e2, by rw [e4 c rfl]; exact h0', ?_⟩⟩
      have := e4 c rfl
      subst this
      rw [if_pos h1']
      exact ⟨g, _, e1, rfl, Nat.sub_le_sub_right h0' _, fun _ h => by cases h; rfl⟩
    · rename_i h1
      refine ⟨_, hh, fun φ s ⟨g, c', e1, e2, e3, e4⟩ => ⟨_, _, _, e2, by rw [e4 c rfl]; exact h0', ?_⟩⟩
      have := e4 c rfl
      subst this
      have h1' : ¬ (c' = b) := fun e => by subst e; rw [Nat.beq_refl] at h1; cases h1
      rw [if_neg h1']
      exact ⟨g, _, e1, by simp only [Option.map_some, add_lit, Nat.add_assoc]; rfl, Nat.sub_le_sub_right h0' _, fun _ h => by cases h; rfl⟩
  · rename_i r q m
    split at hh
    · cases hh
    rename_i h0
    have h0' : h ≤ m := Nat.le_of_ble_eq_true h0
    split at hh
    · rename_i h1
      have h1' : b < m := by simpa [Nat.blt_eq] using h1
      refine ⟨_, hh, fun φ s ⟨g, c', e1, e2, e3, e4⟩ => ⟨_, _, _, e2, by omega, ?_⟩⟩
      rw [if_neg (by omega)]
      exact ⟨g, _, e1, by simp only [Option.map_some, add_lit, Nat.add_assoc]; rfl, Nat.sub_le_sub_right (by omega) _, fun _ h => by cases h⟩
    · split at hh
      · rename_i h1
        have h1' : b = 0 := Nat.eq_of_beq_eq_true h1
        subst h1'
        refine ⟨_, hh, fun φ s ⟨g, c', e1, e2, e3, e4⟩ => ⟨_, _, _, e2, by omega, ?_⟩⟩
        exact ⟨g, c', e1, by simp [add_lit], by omega, fun _ h => by cases h⟩
      · rename_i hq x0 hq0
        have h1' : ¬ b < m := fun e => by
          have e' : Nat.blt b m = true := by simpa [Nat.blt_eq] using e
          rw [e'] at hq
          cases hq
        have hz : h - b = 0 := by omega
        refine ⟨_, hh, fun φ s ⟨g, c', e1, e2, e3, e4⟩ => ⟨_, _, _, e2, by omega, ?_⟩⟩
        rw [hz]
        exact part_end e1 _ _ _ _
  · rename_i r q m z
    split at hh
    · cases hh
    rename_i hz
    have hz' : z = size := Nat.eq_of_beq_eq_true hz
    subst hz'
    split at hh
    · cases hh
    rename_i h0
    have h0' : h ≤ m := Nat.le_of_ble_eq_true h0
    split at hh
    · rename_i h1
      have h1' : b < m := by simpa [Nat.blt_eq] using h1
      refine ⟨_, hh, fun φ s ⟨g, c', e1, e2, e3, e4⟩ => ⟨_, _, _, e2, by omega, ?_⟩⟩
      rw [if_neg (by omega)]
      refine ⟨g, _, e1, by simp only [Option.map_some, add_lit, Nat.add_assoc]; rfl, Nat.sub_le_sub_right (by omega) _, ?_⟩
      show g.2.2 + (q + b * z) + (c' - b) * z = g.2.1
      rw [← e4, Nat.add_assoc, Nat.add_assoc q, ← Nat.add_mul, Nat.add_assoc]
      congr 3
      omega
    · split at hh
      · rename_i h1
        have h1' : b = 0 := Nat.eq_of_beq_eq_true h1
        subst h1'
        refine ⟨_, hh, fun φ s ⟨g, c', e1, e2, e3, e4⟩ => ⟨_, _, _, e2, by omega, ?_⟩⟩
        exact ⟨g, c', e1, by simp [add_lit], by omega, by simpa using e4⟩
      · rename_i hq x0 hq0
        have h1' : ¬ b < m := fun e => by
          have e' : Nat.blt b m = true := by simpa [Nat.blt_eq] using e
          rw [e'] at hq
          cases hq
        have hz : h - b = 0 := by omega
        refine ⟨_, hh, fun φ s ⟨g, c', e1, e2, e3, e4⟩ => ⟨_, _, _, e2, by omega, ?_⟩⟩
        rw [hz]
        exact part_endZ e1 (by omega) e4
  · rename_i r q z
    split at hh
    · cases hh
    rename_i h0
    have h0' : h ≤ 0 := Nat.le_of_ble_eq_true h0
    have hz : h = 0 := by omega
    have hz2 : b = 0 := by omega
    subst hz hz2
    refine ⟨_, hh, fun φ s ⟨g, o, c', e1, e2, e3⟩ => ⟨_, _, _, e2, by omega, ?_⟩⟩
    exact ⟨g, o, c', e1, by simp [add_lit], e3⟩
  · cases hh
section
variable {P : Program} {G dt n : Nat} {ds : List (Option Nat)} {o : Oper}
end
noncomputable def aheadF (size : Nat) (a : AV) (b h : Nat) (hp : HP) (k : KV) (els : R) : R := match a with
  | .sg r q m z => match Nat.ble h m with
    | true => els
    | false => match Nat.beq z size with
      | false => none
      | true => match Nat.beq size 0 with
        | true => none
        | false => match Nat.blt b h with
          | false => none
          | true => hp.on fun mem _ => onRow mem r fun _ _ _ _ cells => match Nat.ble (Nat.add q (Nat.mul h size)) cells.len with
            | false => none
            | true => k (.sg r (Nat.add q (Nat.mul b size)) (Nat.sub h b) size) hp
  | _ => els
theorem aheadF_some {size : Nat} {a : AV} {b h : Nat} {hp : HP} {k : KV} {els : R} {x : AV × HP} (hh : aheadF size a b h hp k els = some x) : els = some x ∨
    ∃ v, k v hp = some x ∧ ∀ φ w s, RH φ hp w → VR φ a s → ∃ (ad : Option Addr) (len cap : Nat), s = .slice ad len cap ∧ h ≤ cap ∧ VR φ v (.slice (if cap = b then ad else ad.map (·.add (b * size))) (h - b) (cap - b)) := by
  unfold aheadF at hh
  split at hh
  · rename_i r q m z
    split at hh
    · exact .inl hh
    rename_i hm0
    split at hh
    · cases hh
    rename_i hz
    split at hh
    · cases hh
    rename_i hsz
    split at hh
    · cases hh
    rename_i hbh
    cases hp with
    | mk mem nx =>
    obtain ⟨t1, gr, fz, ro, cells, hm, h2⟩ := onRow_some (show onRow mem r _ = some x from hh)
    split at h2
    · cases h2
    rename_i hln
    have hz' : z = size := Nat.eq_of_beq_eq_true hz
    subst hz'
    have hln' : q + h * z ≤ cells.len := Nat.le_of_ble_eq_true hln
    have hpos : 0 < z := Nat.pos_of_ne_zero fun e => by rw [e] at hsz; cases hsz
    have hbh' : b < h := by simpa [Nat.blt_eq] using hbh
    refine .inr ⟨_, h2, fun φ w s hw ⟨g, c', e1, e2, e3, e4⟩ => ⟨_, _, _, e2, ?_⟩⟩
    obtain ⟨ca, pre, l, rest, mk, f1, f2, f3, _, f5, f6, f7⟩ := RW.row hw hm e1
    have hll : l.length = cells.len := VL.len f3
    have hlen : ca.size = pre.length + (l.length + rest.length) := by rw [← Array.length_toList, f2, List.length_append, List.length_append]
    have hcap : h ≤ c' := by
      have h1 : h * z ≤ c' * z := by omega
      exact Nat.le_of_mul_le_mul_right h1 hpos
    refine ⟨hcap, ?_⟩
    rw [if_neg (by omega)]
    refine ⟨g, _, e1, by simp only [Option.map_some, add_lit, Nat.add_assoc]; rfl, Nat.sub_le_sub_right hcap _, ?_⟩
    show g.2.2 + (q + b * z) + (c' - b) * z = g.2.1
    rw [← e4, Nat.add_assoc, Nat.add_assoc q, ← Nat.add_mul, Nat.add_assoc]
    congr 3
    omega
  · exact .inl hh
section
variable {P : Program} {G dt n : Nat} {ds : List (Option Nat)} {o : Oper}
theorem sliceO_ok {t el : TypeId} {i : TypeInfo} {x : Operand} {low high : Option Operand} (ho : o.op = .slice t x low high none) (hu : P.underlying t = some (.slice el)) (hi : P.info? el = some i) :
    StillOk P G dt n ds o (fun e t0 hp k => sliceLen ((opd G dt n ds x).run e t0) fun m => boundR (high.map (opd G dt n ds)) m e t0 fun h => boundR (low.map (opd G dt n ds)) 0 e t0 fun b => match Nat.ble b h with
      | false => none
      | true => aheadF i.size ((opd G dt n ds x).run e t0) b h hp k (partF i.size ((opd G dt n ds x).run e t0) b h fun v => k v hp)) :=
  fun e t0 hp k r hr => by
    obtain ⟨m, h1, hm⟩ := sliceLen_some hr
    obtain ⟨h, h2, hh⟩ := boundR_some h1
    obtain ⟨b, h3, hb⟩ := boundR_some h2
    split at h3
    · cases h3
    rename_i c2
    have c2' : b ≤ h := Nat.le_of_ble_eq_true c2
    have fin : ∀ v, k v hp = some r → (∀ φ w s, RH φ hp w → VR φ ((opd G dt n ds x).run e t0) s → ∃ (ad : Option Addr) (len cap : Nat), s = .slice ad len cap ∧ h ≤ cap ∧ VR φ v (.slice (if cap = b then ad else ad.map (·.add (b * i.size))) (h - b) (cap - b))) →
        ∃ v, k v hp = some r ∧ ∀ φ (a : Act) w, Glo G φ → OpsR G dt n ds φ e t0 a.eval o.op → RH φ hp w → ∃ v', (execOp a.eval o).run P w = .ok (.value v') w ∧ VR φ v v' := by
      intro v h4 hv
      refine ⟨v, h4, fun φ a w _ hx hw => ?_⟩
      obtain ⟨ad, len, cap, e1, e2, e3⟩ := hv φ w _ hw (hx x (by rw [ho]; simp [Op.operands, Call.operands]))
      obtain ⟨b', c', e4⟩ := hm φ _ (hx x (by rw [ho]; simp [Op.operands, Call.operands]))
      have hml : m = len := by rw [e1] at e4; injection e4 with _ e4 _; exact e4.symm
      subst hml
      have hrun := bounds_run (P := P) (w := w) true (hb φ a.eval (fun y h => hx y (by rw [ho, h]; simp [Op.operands, Call.operands]))) (hh φ a.eval (fun y h => hx y (by rw [ho, h]; simp [Op.operands, Call.operands]))) e2 c2'
      refine ⟨_, ?_, e3⟩
      unfold execOp
      rw [ho]
      simp [Instr.sliceAt, Instr.slice, run_underlying hu, e1, hrun, sizeOf, typeInfo, hi]
    rcases aheadF_some h3 with h4 | ⟨v, h4, h5⟩
    · obtain ⟨v, h5, hv⟩ := partF_some c2' h4
      exact fin v h5 fun φ w s _ hs => hv φ s hs
    · exact fin v h4 h5
end
noncomputable def part3F (size : Nat) (a : AV) (b h mx : Nat) (k : AV → R) : R := match a with
  | .sn => match Nat.ble mx 0 with
    | true => k .sn
    | false => none
  | .sl r q m (some c) => match Nat.ble mx c with
    | false => none
    | true => match Nat.beq mx b with
      | true => k (.sl r q (Nat.sub h b) (some (Nat.sub mx b)))
      | false => k (.sl r (Nat.add q (Nat.mul b size)) (Nat.sub h b) (some (Nat.sub mx b)))
  | .sl r q m none => match Nat.ble mx m with
    | false => none
    | true => match Nat.beq mx b with
      | true => k (.sl r q (Nat.sub h b) (some (Nat.sub mx b)))
      | false => k (.sl r (Nat.add q (Nat.mul b size)) (Nat.sub h b) (some (Nat.sub mx b)))
  | .sg r q m z => match Nat.ble mx m with
    | false => none
    | true => match Nat.beq mx b with
      | true => k (.sl r q (Nat.sub h b) (some (Nat.sub mx b)))
      | false => k (.sl r (Nat.add q (Nat.mul b size)) (Nat.sub h b) (some (Nat.sub mx b)))
  | .se r q z => match Nat.ble mx 0 with
    | false => none
    | true => k (.se r q z)
  | _ => none
theorem part3F_some {size : Nat} {a : AV} {b h mx : Nat} {k : AV → R} {x : AV × HP} (hb : b ≤ h) (hm : h ≤ mx) (hh : part3F size a b h mx k = some x) :
    ∃ v, k v = some x ∧ ∀ φ s, VR φ a s → ∃ (ad : Option Addr) (len cap : Nat), s = .slice ad len cap ∧ mx ≤ cap ∧ VR φ v (.slice (if mx = b then ad else ad.map (·.add (b * size))) (h - b) (mx - b)) := by
  have key : ∀ (r : Id) (q : Nat) (y : AV × HP), (match Nat.beq mx b with
      | true => k (.sl r q (Nat.sub h b) (some (Nat.sub mx b)))
      | false => k (.sl r (Nat.add q (Nat.mul b size)) (Nat.sub h b) (some (Nat.sub mx b)))) = some y →
      ∃ v, k v = some y ∧ ∀ φ g, φ r = some g → VR φ v (.slice (if mx = b then some ⟨g.1, g.2.2 + q, none⟩ else (some (⟨g.1, g.2.2 + q, none⟩ : Addr)).map (·.add (b * size))) (h - b) (mx - b)) := by
    intro r q y hy
    split at hy
    · rename_i h1
      have h1' : mx = b := Nat.eq_of_beq_eq_true h1
      refine ⟨_, hy, fun φ g e1 => ?_⟩
      rw [if_pos h1']
      exact ⟨g, _, e1, rfl, Nat.sub_le_sub_right hm _, fun _ h => by cases h; rfl⟩
    · rename_i h1
      have h1' : ¬ (mx = b) := fun e => by subst e; rw [Nat.beq_refl] at h1; cases h1
      refine ⟨_, hy, fun φ g e1 => ?_⟩
      rw [if_neg h1']
      exact ⟨g, _, e1, by simp only [Option.map_some, add_lit, Nat.add_assoc]; rfl, Nat.sub_le_sub_right hm _, fun _ h => by cases h; rfl⟩
  unfold part3F at hh
  split at hh
  · split at hh
    · rename_i h0
      have h0' : mx ≤ 0 := Nat.le_of_ble_eq_true h0
      refine ⟨_, hh, fun φ s hs => ⟨none, 0, 0, hs, h0', ?_⟩⟩
      have : mx = 0 := by omega
      have : h = 0 := by omega
      have : b = 0 := by omega
      subst_vars
      rfl
    · cases hh
  · rename_i r q m c
    split at hh
    · cases hh
    rename_i h0
    have h0' : mx ≤ c := Nat.le_of_ble_eq_true h0
    obtain ⟨v, hv, hs⟩ := key r q x hh
    exact ⟨v, hv, fun φ s ⟨g, c', e1, e2, e3, e4⟩ => ⟨_, _, _, e2, by rw [e4 c rfl]; exact h0', hs φ g e1⟩⟩
  · rename_i r q m
    split at hh
    · cases hh
    rename_i h0
    have h0' : mx ≤ m := Nat.le_of_ble_eq_true h0
    obtain ⟨v, hv, hs⟩ := key r q x hh
    exact ⟨v, hv, fun φ s ⟨g, c', e1, e2, e3, e4⟩ => ⟨_, _, _, e2, by omega, hs φ g e1⟩⟩
  · rename_i r q m z
    split at hh
    · cases hh
    rename_i h0
    have h0' : mx ≤ m := Nat.le_of_ble_eq_true h0
    obtain ⟨v, hv, hs⟩ := key r q x hh
    exact ⟨v, hv, fun φ s ⟨g, c', e1, e2, e3, e4⟩ => ⟨_, _, _, e2, by omega, hs φ g e1⟩⟩
  · rename_i r q z
    split at hh
    · cases hh
    rename_i h0
    have h0' : mx ≤ 0 := Nat.le_of_ble_eq_true h0
    have e1 : mx = 0 := by omega
    have e2 : h = 0 := by omega
    have e3 : b = 0 := by omega
    subst e1 e2 e3
    refine ⟨_, hh, fun φ s ⟨g, o, c', f1, f2, f3⟩ => ⟨_, _, _, f2, Nat.zero_le _, ?_⟩⟩
    exact ⟨g, o, 0, f1, by simp, .inr (.inl rfl)⟩
  · cases hh
theorem bounds3_run {P : Program} {w : World} {len cap l h mx : Nat} {low : Option Value} {kh km : IntKind} (hl : BV low 0 l) (h0 : mx ≤ cap) (h1 : h ≤ mx) (h2 : l ≤ h) :
    (Instr.sliceBounds true len cap low (some (.int kh (h : Int))) (some (.int km (mx : Int)))).run P w = .ok (l, h, mx) w := by
  have e1 : ∀ kd code, (Instr.sliceBound (.int kd (mx : Int)) cap code).run P w = .ok mx w := fun kd code => by
    rw [run_sliceBound w kd mx cap code (by omega) (by omega)]; simp
  have e2 : ∀ kd code, (Instr.sliceBound (.int kd (h : Int)) mx code).run P w = .ok h w := fun kd code => by
    rw [run_sliceBound w kd h mx code (by omega) (by omega)]; simp
  have e3 : ∀ kd code, (Instr.sliceBound (.int kd (l : Int)) h code).run P w = .ok l w := fun kd code => by
    rw [run_sliceBound w kd l h code (by omega) (by omega)]; simp
  rcases hl with ⟨rfl, rfl⟩ | ⟨kl, rfl⟩ <;> simp [Instr.sliceBounds, e1, e2, e3]
section
variable {P : Program} {G dt n : Nat} {ds : List (Option Nat)} {o : Oper}
theorem sliceV3_ok {t el : TypeId} {i : TypeInfo} {x hi_ mx_ : Operand} {low : Option Operand} (ho : o.op = .slice t x low (some hi_) (some mx_)) (hu : P.underlying t = some (.slice el)) (hi : P.info? el = some i) :
    PureOk P G dt n ds o (fun e t0 hp k => boundR (some (opd G dt n ds hi_)) 0 e t0 fun h => boundR (some (opd G dt n ds mx_)) 0 e t0 fun mx => boundR (low.map (opd G dt n ds)) 0 e t0 fun b => match Nat.ble b h with
      | false => none
      | true => match Nat.ble h mx with
        | false => none
        | true => part3F i.size ((opd G dt n ds x).run e t0) b h mx fun v => k v hp) :=
  .pure fun e t0 hp k r hr => by
    obtain ⟨h, h2, hh⟩ := boundR_some (b := some hi_) hr
    obtain ⟨mx, h3, hmx⟩ := boundR_some (b := some mx_) h2
    obtain ⟨b, h4, hb⟩ := boundR_some h3
    split at h4
    · cases h4
    rename_i c1
    split at h4
    · cases h4
    rename_i c2
    have c1' : b ≤ h := Nat.le_of_ble_eq_true c1
    have c2' : h ≤ mx := Nat.le_of_ble_eq_true c2
    obtain ⟨v, h5, hv⟩ := part3F_some c1' c2' h4
    refine ⟨_, h5, fun φ a w hx => ?_⟩
    obtain ⟨ad, len, cap, e1, e2, e3⟩ := hv φ _ (hx x (by rw [ho]; simp [Op.operands, Call.operands]))
    have q1 := hh φ a.eval (fun y h => by cases h; exact hx hi_ (by rw [ho]; simp [Op.operands, Call.operands]))
    have q2 := hmx φ a.eval (fun y h => by cases h; exact hx mx_ (by rw [ho]; simp [Op.operands, Call.operands]))
    rcases q1 with ⟨q1, -⟩ | ⟨kh, q1⟩
    · cases q1
    rcases q2 with ⟨q2, -⟩ | ⟨km, q2⟩
    · cases q2
    have hrun := bounds3_run (P := P) (w := w) (len := len) (cap := cap) (kh := kh) (km := km) (hb φ a.eval (fun y h => hx y (by rw [ho, h]; simp [Op.operands, Call.operands]))) e2 c2' c1'
    simp only [Option.map_some, Option.some.injEq] at q1 q2
    refine ⟨_, ?_, e3⟩
    unfold execOp
    rw [ho]
    simp [Instr.sliceAt, Instr.slice, run_underlying hu, e1, q1, q2, hrun, sizeOf, typeInfo, hi]
end
end Go.Proofs.YtknjkljigmepjaaGreatDoor.Clo
end
section
namespace Go.Proofs.YtknjkljigmepjaaGreatDoor.Clo
open Go.RowKit
set_option linter.unusedVariables false
set_option linter.unusedSimpArgs false
variable [Tabs]
noncomputable def madeA (z : AV) (m : Nat) : AV :=
  Nat.rec (motive := fun _ => AV) .nil (fun _ y => z.app y) m
theorem made_list (z : Array Value) : ∀ m, (madeCells z (m * z.size)).toList = (List.replicate m z.toList).flatten
  | 0 => by simp [madeCells]
  | m + 1 => by
    have ih := made_list z m
    rw [List.replicate_succ, List.flatten_cons, ← ih]
    unfold madeCells
    apply List.ext_getElem?
    intro j
    by_cases hz : z.size = 0
    · simp [hz]
    rw [Array.toList_map, Array.toList_map, List.getElem?_append]
    simp only [List.getElem?_map, Array.toList_range, Array.length_toList]
    have hp : 0 < z.size := Nat.pos_of_ne_zero hz
    have e : (m + 1) * z.size = m * z.size + z.size := by rw [Nat.add_mul, Nat.one_mul]
    split
    · rename_i hj
      rw [List.getElem?_range (by omega), Array.getElem?_toList, Array.getElem?_eq_getElem hj]
      simp [Nat.mod_eq_of_lt hj, hj]
    · rename_i hj
      by_cases hj2 : j < (m + 1) * z.size
      · rw [List.getElem?_range hj2, List.getElem?_range (by omega)]
        simp only [Option.map_some]
        rw [← Nat.mod_eq_sub_mod (by omega)]
      · rw [List.getElem?_eq_none (by simp; omega), List.getElem?_eq_none (by simp; omega)]
theorem madeA_ok {φ : Id → Option Plc} {z : AV} {l : List Value} (h : VL φ z l) : ∀ m, VL φ (madeA z m) (List.replicate m l).flatten
  | 0 => rfl
  | m + 1 => by
    rw [List.replicate_succ, List.flatten_cons]
    exact VL.app h (madeA_ok h m)
section
variable {P : Program} {G dt n : Nat} {ds : List (Option Nat)} {o : Oper}
theorem makeSlice_ok {t el : TypeId} {x y : Operand} {i : TypeInfo} {z : Value} {zc : AV} (ho : o.op = .makeSlice t x y) (hu : P.underlying t = some (.slice el)) (hi : P.info? el = some i) (hz : i.zero = some z) (hzs : z.cells.size = i.size) (hzc : (ofConst z).cellsO = some zc) :
    MakeOk P G dt n ds o (fun e t0 hp k => ((opd G dt n ds x).run e t0).on_i fun _ l => onNat l fun l => ((opd G dt n ds y).run e t0).on_i fun _ c => onNat c fun c => match Nat.ble l c with
      | false => none
      | true => match Nat.ble (Nat.mul i.bytes c) 281474976710656 with
        | false => none
        | true => match Nat.ble c 16777216 with
          | false => none
          | true => newF el (madeA zc c) hp fun r hp => k (.sl r 0 l (some c)) hp) := by
  intro e t0 hp k r hr
  obtain ⟨kl, l, hl, h1⟩ := AV.on_i_some hr
  obtain ⟨l, rfl, h2⟩ := onNat_some h1
  obtain ⟨kc, c, hc, h3⟩ := AV.on_i_some h2
  obtain ⟨c, rfl, h4⟩ := onNat_some h3
  split at h4
  · cases h4
  rename_i c1
  split at h4
  · cases h4
  rename_i c2
  split at h4
  · cases h4
  rename_i c3
  have c1' : l ≤ c := Nat.le_of_ble_eq_true c1
  have c2' : i.bytes * c ≤ 281474976710656 := Nat.le_of_ble_eq_true c2
  have c3' : c ≤ 16777216 := Nat.le_of_ble_eq_true c3
  obtain ⟨m, nx, e', hlast, h5⟩ := newF_some h4
  refine ⟨m, nx, _, _, e', hlast, rfl, h5, fun φ a w g1 hx => ?_⟩
  have e1 : a.eval x = .int kl (l : Int) := by have := (hx x (by rw [ho]; simp [Op.operands, Call.operands])); rw [hl] at this; exact this
  have e2 : a.eval y = .int kc (c : Int) := by have := (hx y (by rw [ho]; simp [Op.operands, Call.operands])); rw [hc] at this; exact this
  obtain ⟨h7, _⟩ := AV.cellsO_ok hzc (ofConst_ok φ z)
  have hrun := run_make (P := P) w t el i z hu hi hz kl kc l c (by omega) (by omega) (by have h := Int.ofNat_le.2 c2'; rw [Int.natCast_mul] at h; exact h) (by omega)
  rw [Int.toNat_natCast, Int.toNat_natCast] at hrun
  have hcs : VL φ (madeA zc c) (madeCells z.cells (c * i.size)).toList := by
    rw [← hzs, made_list]
    exact madeA_ok h7 c
  refine ⟨.slice (some ⟨w.heap.size, 0, none⟩) l c, _, _, _, ?_, .alloc _ _, row_says hcs, fun ψ _ hn => ⟨_, c, hn, rfl, c1', fun _ h => by cases h; rfl⟩⟩
  unfold execOp
  simp only [ho, e1, e2, Sem.run_bind, hrun, Result.andThen_ok]
  rfl
theorem cap_ok {t el : TypeId} {x : Operand} (ho : o.op = .call { callee := .builtin .cap, args := #[x], argTypes := #[t] }) (hu : P.underlying t = some (.slice el)) :
    PureOk P G dt n ds o (fun e t0 hp k => match (opd G dt n ds x).run e t0 with
      | .sn => k (.i .i64 0) hp
      | .sl _ _ _ (some c) => k (.i .i64 (Int.ofNat c)) hp
      | _ => none) :=
  .pure fun e t0 hp k r hr => by
    have key : ∃ c, k (.i .i64 (Int.ofNat c)) hp = some r ∧ ∀ φ v, VR φ ((opd G dt n ds x).run e t0) v → ∃ b m, v = .slice b m c := by
      split at hr
      · rename_i h
        exact ⟨0, hr, fun φ v hv => by rw [h] at hv; exact ⟨none, 0, hv⟩⟩
      · rename_i r' q m c h
        refine ⟨c, hr, fun φ v hv => ?_⟩
        rw [h] at hv
        obtain ⟨g, c', _, e, _, e'⟩ := hv
        exact ⟨_, _, by rw [e, e' c rfl]⟩
      · cases hr
    obtain ⟨c, h1, h2⟩ := key
    refine ⟨_, h1, fun φ a w hx => ⟨.int .i64 (c : Int), ?_, rfl⟩⟩
    obtain ⟨b, m, e1⟩ := h2 φ _ ((hx x (by rw [ho]; simp [Op.operands, Call.operands])))
    unfold execOp
    rw [ho]
    simp [resolve, invoke, builtin, Builtin.cap_, e1, run_underlying hu, goInt]
theorem convInt_ok {s t : TypeId} {x : Operand} {kd : IntKind} {d : TypeDesc} (ho : o.op = .convert s t x) (hs : P.underlying s = some d) (ht : P.underlying t = some (.int kd)) :
    PureOk P G dt n ds o (fun e t0 hp k => ((opd G dt n ds x).run e t0).on_i fun _ j => k (.i kd (kd.wrap j)) hp) :=
  .pure fun e t0 hp k r hr => by
    obtain ⟨k0, j, hj, h1⟩ := AV.on_i_some hr
    refine ⟨_, h1, fun φ a w hx => ⟨.int kd (kd.wrap j), ?_, rfl⟩⟩
    have e1 : a.eval x = .int k0 j := by have := (hx x (by rw [ho]; simp [Op.operands, Call.operands])); rw [hj] at this; exact this
    unfold execOp
    rw [ho]
    simp [convert, run_underlying hs, run_underlying ht, Conv.intToInt, e1]
end
end Go.Proofs.YtknjkljigmepjaaGreatDoor.Clo
end
section
namespace Go.Proofs.YtknjkljigmepjaaGreatDoor.Clo
open Go.RowKit
set_option linter.unusedVariables false
set_option linter.unusedSimpArgs false
variable [Tabs]
noncomputable def bytesK (m : Nat) : AV → (List Nat → R) → R :=
  Nat.rec (motive := fun _ => AV → (List Nat → R) → R) (fun _ k => k []) (fun _ ih l k => match l with
    | .cons (.i .u8 j) r => onNat j fun b => match Nat.blt b 256 with
      | true => ih r fun y => k (b :: y)
      | false => none
    | _ => none) m
theorem bytesK_some : ∀ (m : Nat) {l : AV} {k : List Nat → R} {x : AV × HP}, bytesK m l k = some x → ∃ ns, k ns = some x ∧ ns.length = m ∧ B256 ns ∧ ∀ φ vs, VL φ l vs → vs.take m = ns.map (fun b : Nat => Value.int .u8 (b : Int))
  | 0, l, k, x, h => ⟨[], h, rfl, (fun _ h => by cases h), fun _ _ _ => by simp⟩
  | m + 1, l, k, x, h => by
    have h' : (match (generalizing := false) l with
      | .cons (.i .u8 j) r => onNat j fun b => match Nat.blt b 256 with
        | true => bytesK m r fun y => k (b :: y)
        | false => none
      | _ => none : R) = some x := h
    split at h'
    · rename_i j r
      obtain ⟨b, rfl, h1⟩ := onNat_some h'
      split at h1
      · rename_i hb
        have hb' : b < 256 := by simpa [Nat.blt_eq] using hb
        obtain ⟨ns, h2, h3, h4, h5⟩ := bytesK_some m h1
        refine ⟨b :: ns, h2, by rw [List.length_cons, h3], fun y hy => ?_, fun φ vs hv => ?_⟩
        · rcases List.mem_cons.1 hy with rfl | hy
          · exact hb'
          · exact h4 y hy
        · obtain ⟨v, vs', e, h6, h7⟩ := hv
          have e2 : v = .int .u8 (b : Int) := h6
          subst e e2
          rw [List.take_succ_cons, h5 φ vs' h7, List.map_cons]
      · cases h1
    · cases h'
noncomputable def textF (a : AV) (hp : HP) (k : List Nat → R) : R := match a with
  | .sn => k []
  | .sl r q m _ => hp.on fun mem _ => onRow mem r fun _ _ _ _ cells => bytesK m (cells.drop q) k
  | .sg r q m _ => hp.on fun mem _ => onRow mem r fun _ _ _ _ cells => bytesK m (cells.drop q) k
  | _ => none
theorem fold_bytes : ∀ (ns : List Nat) (s : ByteArray), (ns.map fun b : Nat => (b : Int)).foldl (fun r (n : Int) => r.push (UInt8.ofNat n.toNat)) s = s ++ bytesOf ns
  | [], s => by
    apply ByteArray.ext
    simp [bytesOf]
  | b :: ns, s => by
    rw [List.map_cons, List.foldl_cons, fold_bytes ns]
    apply ByteArray.ext
    simp [bytesOf, ByteArray.push]
section
variable {P : Program} {G dt n : Nat} {ds : List (Option Nat)} {o : Oper}
theorem textF_some {a : AV} {hp : HP} {k : List Nat → R} {x : AV × HP} (h : textF a hp k = some x) : ∃ ns, k ns = some x ∧ B256 ns ∧ ∀ φ w s, RH φ hp w → VR φ a s → ∃ (ad : Option Addr) (m c : Nat), s = .slice ad m c ∧ (∀ b, ad = some b → (loadCells b m).run P w = .ok (ns.map (fun b : Nat => Value.int .u8 (b : Int))).toArray w) ∧ (ad = none → ns = []) := by
  have row : ∀ r q m, (hp.on fun mem _ => onRow mem r fun _ _ _ _ cells => bytesK m (cells.drop q) k : R) = some x → ∃ ns, k ns = some x ∧ B256 ns ∧ ∀ φ w (g : Plc), RH φ hp w → φ r = some g → (loadCells ⟨g.1, g.2.2 + q, none⟩ m).run P w = .ok (ns.map (fun b : Nat => Value.int .u8 (b : Int))).toArray w := by
    intro r q m hh
    cases hp with
    | mk mem nx =>
    obtain ⟨t, gr, fz, ro, cells, hm, h2⟩ := onRow_some (show onRow mem r _ = some x from hh)
    obtain ⟨ns, h3, h4, h5, h6⟩ := bytesK_some m h2
    refine ⟨ns, h3, h5, fun φ w g hw hg => ?_⟩
    obtain ⟨ca, pre, l, rest, mk, e1, e2, e3, _, _, hb, _⟩ := RW.row hw hm hg
    have e4 := h6 φ _ (VL.drop q e3)
    rw [← e4]
    have hlen : ((l.drop q).take m).length = m := by rw [e4, List.length_map, h4]
    have := run_loadCells_list (P := P) (w := w) ⟨g.1, g.2.2 + q, none⟩ ((l.drop q).take m) (fun j v hv => by
      rw [add_lit, Nat.add_assoc]
      refine cell_row e1 e2 hb ?_
      rw [List.getElem?_take] at hv
      split at hv
      · rw [List.getElem?_drop] at hv; exact hv
      · cases hv)
    rw [hlen] at this
    exact this
  unfold textF at h
  split at h
  · exact ⟨[], h, (fun _ h => by cases h), fun φ w s _ hs => ⟨none, 0, 0, hs, (fun _ h => by cases h), fun _ => rfl⟩⟩
  · rename_i r q m c
    obtain ⟨ns, h1, h2, h3⟩ := row r q m h
    refine ⟨ns, h1, h2, fun φ w s hw ⟨g, c', e1, e2, _⟩ => ⟨_, _, _, e2, fun b hb => ?_, fun h => by cases h⟩⟩
    cases hb
    exact h3 φ w g hw e1
  · rename_i r q m c
    obtain ⟨ns, h1, h2, h3⟩ := row r q m h
    refine ⟨ns, h1, h2, fun φ w s hw ⟨g, c', e1, e2, _⟩ => ⟨_, _, _, e2, fun b hb => ?_, fun h => by cases h⟩⟩
    cases hb
    exact h3 φ w g hw e1
  · cases h
theorem convText_ok {s t el : TypeId} {x : Operand} (ho : o.op = .convert s t x) (hs : P.underlying s = some (.slice el)) (he : P.underlying el = some (.int .u8)) (ht : P.underlying t = some .string) :
    StillOk P G dt n ds o (fun e t0 hp k => textF ((opd G dt n ds x).run e t0) hp fun ns => k (.s ns) hp) :=
  fun e t0 hp k r hr => by
    obtain ⟨ns, h1, h2, h3⟩ := textF_some (P := P) hr
    refine ⟨_, h1, fun φ a w _ hx hw => ⟨.string (bytesOf ns), ?_, rfl, h2⟩⟩
    obtain ⟨ad, m, c, e1, e2, e3⟩ := h3 φ w _ hw ((hx x (by rw [ho]; simp [Op.operands, Call.operands])))
    have hrun : (convert s t (.slice ad m c)).run P w = .ok (.string (bytesOf ns)) w := by
      rw [run_convert_bytes_string w s t el ad m c hs he ht]
      cases ad with
      | none =>
        have := e3 rfl
        subst this
        rfl
      | some b =>
        have hl := e2 b rfl
        have := run_bytesToString (P := P) w b m c (ns.map fun b : Nat => (b : Int)) (by rw [hl, List.map_map]; rfl)
        rw [this, fold_bytes]
        congr 2
    unfold execOp
    simp only [ho, e1, Sem.run_bind, hrun, Result.andThen_ok]
    rfl
end
end Go.Proofs.YtknjkljigmepjaaGreatDoor.Clo
end
section
namespace Go.Proofs.YtknjkljigmepjaaGreatDoor.Clo
open Go.RowKit
set_option linter.unusedVariables false
set_option linter.unusedSimpArgs false
variable [Tabs]
noncomputable def overF (r : Id) (q len : Nat) (y : AV) (hp : HP) (k : HP → R) : R :=
  hp.on fun mem nx => onRow mem r fun t gr fz ro cells => match ro with
    | true => none
    | false => match okF fz q with
      | false => none
      | true => match Nat.ble (Nat.add q len) cells.len with
        | false => none
        | true => k (.mk (mem.set r (.row t gr fz false (y.setMany q cells))) nx)
noncomputable def copyN (size : Nat) (r : Id) (q : Nat) (n : Nat) (y : AV) (hp : HP) (k : KV) : R :=
  overF r q (Nat.mul n size) y hp fun hp => k (.i .i64 (Int.ofNat n)) hp
noncomputable def copyF (size : Nat) (d s : AV) (hp : HP) (k : KV) : R := anySl d fun r q m => match s with
  | .sl r2 q2 m2 _ => rowF size r2 q2 (bif Nat.ble m2 m then m2 else m) hp fun n y => copyN size r q n y hp k
  | .sg r2 q2 m2 _ => rowF size r2 q2 (bif Nat.ble m2 m then m2 else m) hp fun n y => copyN size r q n y hp k
  | .s l => match Nat.beq size 1 with
    | false => none
    | true => match Nat.ble (lenL l) m with
      | false => none
      | true => copyN size r q (lenL l) (bytesA l) hp k
  | .sn => copyN size r q 0 .nil hp k
  | _ => none
section
variable {P : Program} {G dt n : Nat} {ds : List (Option Nat)} {o : Oper}
theorem overF_some {r : Id} {q len : Nat} {y : AV} {hp : HP} {k : HP → R} {x : AV × HP} (h : overF r q len y hp k = some x) : ∃ hp', k hp' = some x ∧ ∀ {sts : List Site} φ (B : Bse sts) w (g : Plc) (vs : List Value), WH φ B hp w → φ r = some g → VL φ y vs → vs.length = len → (∀ v ∈ vs, v.oneCell' = true) →
    ∃ w', (storeCells ⟨g.1, g.2.2 + q, none⟩ vs).run P w = .ok () w' ∧ StH φ hp w φ hp' w' ∧ WH φ B hp' w' := by
  cases hp with
  | mk mem nx =>
  obtain ⟨t1, gr, fz, ro, cells, hm, h2⟩ := onRow_some (show onRow mem r _ = some x from h)
  cases ro with
  | true => cases h2
  | false =>
  simp only at h2
  split at h2
  · cases h2
  rename_i hfz
  split at h2
  · cases h2
  rename_i hln
  have hfz' : okF fz q = true := hfz
  have hln' : q + len ≤ cells.len := Nat.le_of_ble_eq_true hln
  refine ⟨_, h2, fun φ B w g vs hw hg hy hl h1 => ?_⟩
  obtain ⟨s1, s2, s3⟩ := WR.store (P := P) hw hm hg hy (o := q) (by omega) hfz' h1
  exact ⟨_, s1, s3, s2⟩
theorem rowF_some (P : Program) {size : Nat} {r : Id} {q m : Nat} {hp : HP} {k : Nat → AV → R} {x : AV × HP} (hh : rowF size r q m hp k = some x) : ∃ y, k m y = some x ∧ ∀ {sts : List Site} φ (B : Bse sts) w (g : Plc), WH φ B hp w → φ r = some g →
    ∃ vs : List Value, VL φ y vs ∧ vs.length = m * size ∧ (∀ j v, vs[j]? = some v → w.cell? ((⟨g.1, g.2.2 + q, none⟩ : Addr).add j) = some v) ∧ ∀ u ∈ vs, u.oneCell' = true := by
  cases hp with
  | mk mem nx =>
  obtain ⟨t, gr, fz, ro, cells, hm, h2⟩ := onRow_some (show onRow mem r _ = some x from hh)
  cases ht : (cells.drop q).takeO (Nat.mul m size) with
  | none => simp only [ht] at h2; cases h2
  | some y =>
    simp only [ht] at h2
    split at h2
    · rename_i ho
      refine ⟨y, h2, fun φ B w g hw hg => ?_⟩
      obtain ⟨vs, e1, e2, e3⟩ := seg_ok P hw hm hg ht
      exact ⟨vs, e1, e2, e3, AV.allOne_ok ho e1⟩
    · cases h2
theorem copyN_ok {dT sT ty el : TypeId} {i : TypeInfo} (hu : P.underlying dT = some (.slice el)) (hi : P.info? el = some i) {r : Id} {q nn : Nat} {y : AV} {hp : HP} {k : KV} {x : AV × HP} (h : copyN i.size r q nn y hp k = some x) :
    ∃ v hp', k v hp' = some x ∧ ∀ {sts : List Site} φ (B : Bse sts) w (g : Plc) (m c ls : Nat) (src : Value) (vs : List Value), WH φ B hp w → φ r = some g → VL φ y vs → vs.length = nn * i.size → (∀ v ∈ vs, v.oneCell' = true) → (Builtin.lenOf src).run P w = .ok ls w → Nat.min ls m = nn → (Builtin.firstCells i.size nn src).run P w = .ok vs.toArray w →
      ∃ v' w', (Builtin.copy_ #[dT, sT] ty #[.slice (some ⟨g.1, g.2.2 + q, none⟩) m c, src]).run P w = .ok v' w' ∧ VR φ v v' ∧ StH φ hp w φ hp' w' ∧ WH φ B hp' w' := by
  obtain ⟨hp', h1, h2⟩ := overF_some (P := P) h
  refine ⟨_, hp', h1, fun φ B w g m c ls src vs hw hg hy hl ho hls hmin hf => ?_⟩
  obtain ⟨w', e1, e2, e3⟩ := h2 φ B w g vs hw hg hy hl ho
  refine ⟨.int .i64 (nn : Int), w', ?_, rfl, e2, e3⟩
  simp [Builtin.copy_, run_underlying hu, hls, hmin, sizeOf, typeInfo, hi, hf, e1, goInt]
theorem copy_ok {s x : Operand} {dT sT el : TypeId} {i : TypeInfo} (ho : o.op = .call { callee := .builtin .copy, args := #[x, s], argTypes := #[dT, sT] }) (hu : P.underlying dT = some (.slice el)) (hi : P.info? el = some i) :
    ValOk P G dt n ds o (fun E t0 hp k => copyF i.size ((opd G dt n ds x).run E t0) ((opd G dt n ds s).run E t0) hp k) := by
  intro E t0 hp k rr hr
  obtain ⟨r, q, m, h1, hd⟩ := anySl_some hr
  have fin : ∀ (v : AV) (hp' : HP), k v hp' = some rr → (∀ {sts : List Site} φ (B : Bse sts) w (g : Plc) (c : Nat) (src : Value), WH φ B hp w → φ r = some g → VR φ ((opd G dt n ds s).run E t0) src →
      ∃ v' w', (Builtin.copy_ #[dT, sT] o.type #[.slice (some ⟨g.1, g.2.2 + q, none⟩) m c, src]).run P w = .ok v' w' ∧ VR φ v v' ∧ StH φ hp w φ hp' w' ∧ WH φ B hp' w') →
      ∃ v hp', k v hp' = some rr ∧ ∀ {sts : List Site} φ (B : Bse sts) (a : Act) w, Glo G φ → OpsR G dt n ds φ E t0 a.eval o.op → WH φ B hp w →
        ∃ ψ v' w', ((execOp a.eval o).run P w = .ok (.value v') w' ∨ ((execOp a.eval o).run P w = .ok .skip w' ∧ v' = undef)) ∧ VR ψ v v' ∧ StH φ hp w ψ hp' w' ∧ WH ψ B hp' w' := by
    intro v hp' hk hall
    refine ⟨v, hp', hk, fun φ B a w g1 hx hw => ?_⟩
    obtain ⟨g, c, hg, e1, _⟩ := hd φ _ ((hx x (by rw [ho]; simp [Op.operands, Call.operands])))
    obtain ⟨v', w', e2, e3, e4, e5⟩ := hall φ B w g c (a.eval s) hw hg ((hx s (by rw [ho]; simp [Op.operands, Call.operands])))
    refine ⟨φ, v', w', .inl ?_, e3, e4, e5⟩
    unfold execOp
    simp only [ho, resolve, invoke, builtin, Sem.run_bind, Sem.run_pure, Result.andThen_ok, List.map_toArray, List.map_cons, List.map_nil, e1, e2]
  have mins : ∀ a b : Nat, Nat.min a b = (bif Nat.ble a b then a else b) := fun a b => by
    cases h : Nat.ble a b with
    | true => exact Nat.min_eq_left (Nat.le_of_ble_eq_true h)
    | false => exact Nat.min_eq_right (Nat.le_of_lt (Nat.lt_of_not_le fun hle => by have := Nat.ble_eq_true_of_le hle; rw [h] at this; cases this))
  split at h1
  · rename_i r2 q2 m2 c2 hs
    obtain ⟨y, h2, h3⟩ := rowF_some P h1
    obtain ⟨v, hp', h4, h5⟩ := copyN_ok (P := P) (sT := sT) (ty := o.type) hu hi h2
    refine fin v hp' h4 fun φ B w g c src hw hg hsrc => ?_
    rw [hs] at hsrc
    obtain ⟨g2, c', e1, e2, _⟩ := hsrc
    subst e2
    obtain ⟨vs, f1, f2, f3, f4⟩ := h3 φ B w g2 hw e1
    exact h5 φ B w g m c m2 _ vs hw hg f1 f2 f4 rfl (mins _ _) (run_firstCells_some w i.size _ _ m2 c' vs f2 f3)
  · rename_i r2 q2 m2 c2 hs
    obtain ⟨y, h2, h3⟩ := rowF_some P h1
    obtain ⟨v, hp', h4, h5⟩ := copyN_ok (P := P) (sT := sT) (ty := o.type) hu hi h2
    refine fin v hp' h4 fun φ B w g c src hw hg hsrc => ?_
    rw [hs] at hsrc
    obtain ⟨g2, c', e1, e2, _⟩ := hsrc
    subst e2
    obtain ⟨vs, f1, f2, f3, f4⟩ := h3 φ B w g2 hw e1
    exact h5 φ B w g m c m2 _ vs hw hg f1 f2 f4 rfl (mins _ _) (run_firstCells_some w i.size _ _ m2 c' vs f2 f3)
  · rename_i l hs
    split at h1
    · cases h1
    rename_i hsz
    split at h1
    · cases h1
    rename_i hle
    have hsz' : i.size = 1 := Nat.eq_of_beq_eq_true hsz
    have hle' : lenL l ≤ m := Nat.le_of_ble_eq_true hle
    obtain ⟨v, hp', h4, h5⟩ := copyN_ok (P := P) (sT := sT) (ty := o.type) hu hi h1
    refine fin v hp' h4 fun φ B w g c src hw hg hsrc => ?_
    rw [hs] at hsrc
    obtain ⟨e1, b1⟩ := hsrc
    subst e1
    have hz : (bytesOf l).size = lenL l := by rw [bytes_size, lenL_eq]
    refine h5 φ B w g m c (lenL l) _ (byteCells (bytesOf l)) hw hg (bytesA_ok b1) (by rw [byteCells_length, hz, hsz', Nat.mul_one]) (fun u hu => ?_) (by rw [← hz]; rfl) (Nat.min_eq_left hle') (by rw [hsz', ← hz]; exact firstCells_string _ w)
    obtain ⟨_, _, rfl⟩ := List.mem_map.1 hu
    rfl
  · rename_i hs
    obtain ⟨v, hp', h4, h5⟩ := copyN_ok (P := P) (sT := sT) (ty := o.type) hu hi h1
    refine fin v hp' h4 fun φ B w g c src hw hg hsrc => ?_
    rw [hs] at hsrc
    have e1 : src = .slice none 0 0 := hsrc
    subst e1
    exact h5 φ B w g m c 0 _ [] hw hg rfl (by simp) (fun u hu => by cases hu) rfl (Nat.zero_min m) (by simp [Builtin.firstCells])
  · cases h1
noncomputable def clearN (size : Nat) (z : AV) (r : Id) (q m : Nat) (hp : HP) (k : KV) : R := match Nat.beq m 0 with
  | true => k (.tu .nil) hp
  | false => match (madeA z m).allOne with
    | true => overF r q (Nat.mul m size) (madeA z m) hp fun hp => k (.tu .nil) hp
    | false => none
noncomputable def clearF (size : Nat) (z a : AV) (hp : HP) (k : KV) : R := match a with
  | .sn => k (.tu .nil) hp
  | .se _ _ _ => k (.tu .nil) hp
  | .sl r q m _ => clearN size z r q m hp k
  | .sg r q m _ => clearN size z r q m hp k
  | _ => none
theorem zero_made (z : Array Value) (n : Nat) : (Builtin.zeroCells z n).toList = (List.replicate n z.toList).flatten := by
  rw [← made_list]
  rfl
theorem clear_ok {x : Operand} {t el : TypeId} {i : TypeInfo} {z : Value} {zc : AV} (ho : o.op = .call { callee := .builtin .clear, args := #[x], argTypes := #[t] }) (hu : P.underlying t = some (.slice el)) (hi : P.info? el = some i) (hz : i.zero = some z) (hzs : z.cells.size = i.size) (hzc : (ofConst z).cellsO = some zc) :
    ValOk P G dt n ds o (fun E t0 hp k => clearF i.size zc ((opd G dt n ds x).run E t0) hp k) := by
  intro E t0 hp k rr hr
  have fin : ∀ (hp' : HP), k (.tu .nil) hp' = some rr → (∀ {sts : List Site} φ (B : Bse sts) w (s : Value), WH φ B hp w → VR φ ((opd G dt n ds x).run E t0) s →
      ∃ w', (Builtin.clear_ #[t] o.type #[s]).run P w = .ok (.tuple #[]) w' ∧ StH φ hp w φ hp' w' ∧ WH φ B hp' w') →
      ∃ v hp', k v hp' = some rr ∧ ∀ {sts : List Site} φ (B : Bse sts) (a : Act) w, Glo G φ → OpsR G dt n ds φ E t0 a.eval o.op → WH φ B hp w →
        ∃ ψ v' w', ((execOp a.eval o).run P w = .ok (.value v') w' ∨ ((execOp a.eval o).run P w = .ok .skip w' ∧ v' = undef)) ∧ VR ψ v v' ∧ StH φ hp w ψ hp' w' ∧ WH ψ B hp' w' := by
    intro hp' hk hall
    refine ⟨_, hp', hk, fun φ B a w g1 hx hw => ?_⟩
    obtain ⟨w', e2, e4, e5⟩ := hall φ B w (a.eval x) hw (hx x (by rw [ho]; simp [Op.operands, Call.operands]))
    refine ⟨φ, .tuple #[], w', .inl ?_, ⟨#[], rfl, rfl⟩, e4, e5⟩
    unfold execOp
    simp only [ho, resolve, invoke, builtin, Sem.run_bind, Sem.run_pure, Result.andThen_ok, List.map_toArray, List.map_cons, List.map_nil, e2]
  have none' : ∀ (ad : Option Addr) (c : Nat) w, (Builtin.clear_ #[t] o.type #[.slice ad 0 c]).run P w = .ok (.tuple #[]) w := fun ad c w => by
    cases ad <;> simp [Builtin.clear_, run_underlying hu]
  have row : ∀ r q m, clearN i.size zc r q m hp k = some rr → ∃ hp', k (.tu .nil) hp' = some rr ∧ ∀ {sts : List Site} φ (B : Bse sts) w (g : Plc) c, WH φ B hp w → φ r = some g →
      ∃ w', (Builtin.clear_ #[t] o.type #[.slice (some ⟨g.1, g.2.2 + q, none⟩) m c]).run P w = .ok (.tuple #[]) w' ∧ StH φ hp w φ hp' w' ∧ WH φ B hp' w' := by
    intro r q m hh
    unfold clearN at hh
    split at hh
    · rename_i hm
      have hm' := Nat.eq_of_beq_eq_true hm
      subst hm'
      exact ⟨hp, hh, fun φ B w g c hw hg => ⟨w, none' _ _ _, Step.refl, hw⟩⟩
    · rename_i hm
      split at hh
      · rename_i hone
        obtain ⟨hp', h1, h2⟩ := overF_some (P := P) hh
        refine ⟨hp', h1, fun φ B w g c hw hg => ?_⟩
        obtain ⟨h7, _⟩ := AV.cellsO_ok hzc (ofConst_ok φ z)
        have hcs : VL φ (madeA zc m) (Builtin.zeroCells z.cells m).toList := by rw [zero_made]; exact madeA_ok h7 m
        obtain ⟨w', e1, e2, e3⟩ := h2 φ B w g _ hw hg hcs (by rw [Array.length_toList, size_zeroCells, hzs]; rfl) (AV.allOne_ok hone hcs)
        refine ⟨w', ?_, e2, e3⟩
        have hm0 : m ≠ 0 := fun e => by subst e; cases hm
        obtain ⟨m', rfl⟩ := Nat.exists_eq_succ_of_ne_zero hm0
        simp [Builtin.clear_, run_underlying hu, zeroValue, typeInfo, program, Sem.run, hi, hz, e1]
      · cases hh
  have hr : clearF i.size zc ((opd G dt n ds x).run E t0) hp k = some rr := hr
  unfold clearF at hr
  split at hr
  · rename_i hs
    exact fin hp hr fun φ B w s hw hv => by
      rw [hs] at hv
      have hv' : s = .slice none 0 0 := hv
      subst hv'
      exact ⟨w, none' _ _ _, Step.refl, hw⟩
  · rename_i r hs
    exact fin hp hr fun φ B w s hw hv => by
      rw [hs] at hv
      obtain ⟨g, o', c, _, rfl, _⟩ := hv
      exact ⟨w, none' _ _ _, Step.refl, hw⟩
  · rename_i r q m c hs
    obtain ⟨hp', h1, h2⟩ := row r q m hr
    exact fin hp' h1 fun φ B w s hw hv => by
      rw [hs] at hv
      obtain ⟨g, c', hg, rfl, _⟩ := hv
      exact h2 φ B w g c' hw hg
  · rename_i r q m c hs
    obtain ⟨hp', h1, h2⟩ := row r q m hr
    exact fin hp' h1 fun φ B w s hw hv => by
      rw [hs] at hv
      obtain ⟨g, c', hg, rfl, _⟩ := hv
      exact h2 φ B w g c' hw hg
  · cases hr
end
end Go.Proofs.YtknjkljigmepjaaGreatDoor.Clo
end
