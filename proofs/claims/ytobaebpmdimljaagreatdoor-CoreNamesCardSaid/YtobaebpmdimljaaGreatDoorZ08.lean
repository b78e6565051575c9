/- Part 8 of a proof laid in parts, one behind the other; no condition of its own. -/
import Derived.Test.YtobaebpmdimljaaGreatDoorZ07
import Derived.Laws.AppendOwn
set_option linter.all false
section
namespace Go.Proofs.YtobaebpmdimljaaGreatDoor.Clo
open Go.RowKit
set_option linter.unusedVariables false
set_option linter.unusedSimpArgs false
noncomputable def HP.on (hp : HP) (k : Mem → Id → R) : R := HP.rec k hp
noncomputable def onRow (m : Mem) (r : Id) (k : TypeId → Bool → Option Nat → Bool → AV → R) : R :=
  Option.rec (motive := fun _ => R) none (fun b => Blk.rec (motive := fun _ => R) k (fun _ => none) (fun _ _ => none) (fun _ => none) (fun _ _ => none) b) (m.get r)
theorem onRow_some {m : Mem} {r : Id} {k : TypeId → Bool → Option Nat → Bool → AV → R} {x : AV × HP} (h : onRow m r k = some x) : ∃ t gr fz ro cells, m.get r = some (.row t gr fz ro cells) ∧ k t gr fz ro cells = some x := by
  unfold onRow at h
  cases e : m.get r with
  | none => rw [e] at h; cases h
  | some b =>
    rw [e] at h
    cases b with
    | row t gr fz ro cells => exact ⟨t, gr, fz, ro, cells, rfl, h⟩
    | tab l => cases h
    | iter s p => cases h
    | dfd b => cases h
    | loop st pend => cases h
noncomputable def AV.atR (n : Nat) : AV → (AV → R) → R :=
  Nat.rec (motive := fun _ => AV → (AV → R) → R) (fun l k => match l with | .cons x _ => k x | _ => none) (fun _ ih l k => match l with | .cons _ r => ih r k | _ => none) n
theorem AV.atR_some : ∀ (n : Nat) {l : AV} {k : AV → R} {x : AV × HP}, l.atR n k = some x → n < l.len ∧ k (l.at n) = some x
  | 0, l, k, x, h => by
    cases l <;> first | (cases h; done) | exact ⟨Nat.succ_pos _, h⟩
  | n + 1, l, k, x, h => by
    cases l <;> first | (cases h; done) | skip
    rename_i y r
    have h' : r.atR n k = some x := h
    obtain ⟨h1, h2⟩ := AV.atR_some n h'
    exact ⟨Nat.succ_lt_succ h1, h2⟩
noncomputable def AV.takeO (n : Nat) : AV → Option AV :=
  Nat.rec (motive := fun _ => AV → Option AV) (fun _ => some .nil) (fun _ ih l => match l with | .cons x r => Option.rec (motive := fun _ => Option AV) none (fun y => some (.cons x y)) (ih r) | _ => none) n
theorem AV.takeO_some : ∀ (n : Nat) {l y : AV}, l.takeO n = some y → n ≤ l.len ∧ y = l.take n
  | 0, l, y, h => by cases h; exact ⟨Nat.zero_le _, rfl⟩
  | n + 1, l, y, h => by
    cases l <;> first | (cases h; done) | skip
    rename_i x r
    have h' : (Option.rec (motive := fun _ => Option AV) none (fun y => some (.cons x y)) (r.takeO n) : Option AV) = some y := h
    cases e : r.takeO n with
    | none => rw [e] at h'; cases h'
    | some z =>
      rw [e] at h'
      cases h'
      obtain ⟨h1, h2⟩ := AV.takeO_some n e
      exact ⟨Nat.succ_le_succ h1, by rw [h2]; rfl⟩
theorem AV.drop_len : ∀ (o : Nat) (l : AV), 0 < (l.drop o).len → (l.drop o).len = l.len - o
  | 0, l, _ => rfl
  | o + 1, l, h => by
    cases l <;> first | (exact absurd h (Nat.lt_irrefl 0)) | skip
    rename_i x r
    have := AV.drop_len o r h
    show (r.drop o).len = r.len + 1 - (o + 1)
    omega
def AV.one : AV → Bool
  | .u | .nil | .cons _ _ | .ag _ | .tu _ => false
  | _ => true
theorem AV.one_ok {φ : Id → Option Plc} : ∀ {x : AV} {v : Value}, x.one = true → VR φ x v → v.oneCell' = true ∧ v.cells = #[v] := by
  intro x v h k
  cases x <;> simp only [AV.one, Bool.false_eq_true] at h
  case yd => obtain ⟨g, _, e⟩ := k; subst e; exact ⟨rfl, rfl⟩
  case inil => have : v = _ := k; subst this; exact ⟨rfl, rfl⟩
  case ifc => obtain ⟨w, e, _⟩ := k; subst e; exact ⟨rfl, rfl⟩
  case fnil => have : v = _ := k; subst this; exact ⟨rfl, rfl⟩
  case fn => obtain ⟨xs, ys, e, _⟩ := k; subst e; exact ⟨rfl, rfl⟩
  case mn => have : v = _ := k; subst this; exact ⟨rfl, rfl⟩
  case mp => obtain ⟨g, _, e⟩ := k; subst e; exact ⟨rfl, rfl⟩
  case sn => have : v = _ := k; subst this; exact ⟨rfl, rfl⟩
  case sl => obtain ⟨g, c, _, e, _⟩ := k; subst e; exact ⟨rfl, rfl⟩
  case sg => obtain ⟨g, c, _, e, _⟩ := k; subst e; exact ⟨rfl, rfl⟩
  case se => obtain ⟨g, o, k, _, e⟩ := k; subst e; exact ⟨rfl, rfl⟩
  case pn => have : v = _ := k; subst this; exact ⟨rfl, rfl⟩
  case p => obtain ⟨g, _, e⟩ := k; subst e; exact ⟨rfl, rfl⟩
  case s => obtain ⟨e, _⟩ := k; subst e; exact ⟨rfl, rfl⟩
  case b => have : v = _ := k; subst this; exact ⟨rfl, rfl⟩
  case i => have : v = _ := k; subst this; exact ⟨rfl, rfl⟩
def AV.allOne : AV → Bool
  | .nil => true
  | .cons x r => x.one && r.allOne
  | _ => false
theorem AV.allOne_ok {φ : Id → Option Plc} : ∀ {x : AV} {l : List Value}, x.allOne = true → VL φ x l → ∀ v ∈ l, v.oneCell' = true
  | .nil, l, _, h => by have : l = [] := h; subst this; exact fun v hv => by cases hv
  | .cons x r, l, h, ⟨v, vs, e, h1, h2⟩ => by
    subst e
    simp only [AV.allOne, Bool.and_eq_true] at h
    intro u hu
    rcases List.mem_cons.1 hu with rfl | hu
    · exact (AV.one_ok h.1 h1).1
    · exact AV.allOne_ok h.2 h2 u hu
def AV.cellsO : AV → Option AV
  | .ag l => match l.allOne with
    | true => some l
    | false => none
  | x => match x.one with
    | true => some (.cons x .nil)
    | false => none
theorem AV.cellsO_ok {φ : Id → Option Plc} {x y : AV} {v : Value} (h : x.cellsO = some y) (k : VR φ x v) : VL φ y v.cells.toList ∧ ∀ u ∈ v.cells.toList, u.oneCell' = true := by
  unfold AV.cellsO at h
  split at h
  · rename_i l
    split at h
    · rename_i hl
      cases h
      obtain ⟨xs, e, h1⟩ := k
      subst e
      exact ⟨h1, AV.allOne_ok hl h1⟩
    · cases h
  · split at h
    · rename_i ho
      cases h
      obtain ⟨h1, h2⟩ := AV.one_ok ho k
      rw [h2]
      exact ⟨⟨v, [], rfl, k, rfl⟩, fun u hu => by rw [List.mem_singleton.1 hu]; exact h1⟩
    · cases h
section
variable {P : Program} {G dt n : Nat} {ds : List (Option Nat)} {o : Oper}
theorem fieldAddr_ok {s : TypeId} {x : Operand} {f : Nat} {fs : Array Field} {fd : Field} {i : TypeInfo} (ho : o.op = .fieldAddr s x f) (hs : P.underlying s = some (.struct fs)) (hf : fs[f]? = some fd) (hi : P.info? fd.type = some i) (hz : i.size ≠ 0) :
    PureOk P G dt n ds o (fun e t hp k => ((opd G dt n ds x).run e t).on_p fun r q => k (.p r (Nat.add q fd.offset)) hp) :=
  .pure fun e t hp k r hr => by
    obtain ⟨b, q, hb, h1⟩ := AV.on_p_some hr
    refine ⟨_, h1, fun φ a w hx => ?_⟩
    obtain ⟨g, hg, hv⟩ : ∃ g, φ b = some g ∧ a.eval x = .pointer (some ⟨g.1, q, none⟩) := by have := hx x (by rw [ho]; simp [Op.operands, Call.operands]); rw [hb] at this; exact this
    refine ⟨.pointer (some ⟨g.1, q + fd.offset, none⟩), ?_, g, hg, rfl⟩
    unfold execOp
    rw [ho]
    simp only [Instr.fieldAt, hv, Instr.sureAddr, Sem.run_bind, run_underlying hs, Result.andThen_ok, hf, Sem.run_pure, fieldPlace, sizeOf, typeInfo]
    simp [hi, hz, add_lit, program, Sem.run]
end
end Go.Proofs.YtobaebpmdimljaaGreatDoor.Clo
end
section
namespace Go.Proofs.YtobaebpmdimljaaGreatDoor.Clo
open Go.RowKit
set_option linter.unusedVariables false
set_option linter.unusedSimpArgs false
section
variable {P : Program} {G dt n : Nat} {ds : List (Option Nat)} {o : Oper}
noncomputable def loadF (agg : Bool) (sz : Nat) (r : Id) (q : Nat) (hp : HP) (k : KV) : R :=
  hp.on fun m _ => onRow m r fun _ _ _ _ cells => match agg with
    | false => cells.atR q fun v => k v hp
    | true => Option.rec (motive := fun _ => R) none (fun y => k (.ag y) hp) ((cells.drop q).takeO sz)
theorem runs_value {s : Sem Value} {w : World} {Q : Value → World → Prop} (h : Runs P s w Q) : ∃ v' w', (do Pure.pure (Next.value (← s)) : Sem Next).run P w = .ok (.value v') w' ∧ Q v' w' := by
  obtain ⟨v, w', h1, h2⟩ := h
  refine ⟨v, w', ?_, h2⟩
  rw [Sem.run_bind, h1]
  rfl
theorem runs_skip {s : Sem Unit} {w : World} {Q : Unit → World → Prop} (h : Runs P s w Q) : ∃ w', (do s; Pure.pure Next.skip : Sem Next).run P w = .ok .skip w' ∧ Q () w' := by
  obtain ⟨v, w', h1, h2⟩ := h
  refine ⟨w', ?_, h2⟩
  rw [Sem.run_bind, h1]
  rfl
theorem load_ok {t : TypeId} {x : Operand} {agg : Bool} {i : TypeInfo} (ho : o.op = .load t x) (ha : aggT P t = some agg) (hi : P.info? t = some i) :
    StillOk P G dt n ds o (fun e t hp k => ((opd G dt n ds x).run e t).on_p fun r q => loadF agg i.size r q hp k) :=
  fun e t0 hp k r hr => by
    obtain ⟨b, q, hb, h1⟩ := AV.on_p_some hr
    cases hp with
    | mk m nx =>
    obtain ⟨t1, gr, fz, ro, cells, hm, h2⟩ := onRow_some h1
    have key : ∀ v, (∀ φ w g, RW φ m w → φ b = some g → Runs P (loadVar t ⟨g.1, q, none⟩) w fun v' w' => w' = w ∧ VR φ v v') → k v (.mk m nx) = some r →
        ∃ v, k v (.mk m nx) = some r ∧ ∀ φ (a : Act) w, Glo G φ → OpsR G dt n ds φ e t0 a.eval o.op → RH φ (.mk m nx) w → ∃ v', (execOp a.eval o).run P w = .ok (.value v') w ∧ VR φ v v' := by
      intro v hv hk
      refine ⟨v, hk, fun φ a w _ hx hw => ?_⟩
      obtain ⟨g, hg, hv'⟩ : ∃ g, φ b = some g ∧ a.eval x = .pointer (some ⟨g.1, q, none⟩) := by have := hx x (by rw [ho]; simp [Op.operands, Call.operands]); rw [hb] at this; exact this
      obtain ⟨v', w', h3, rfl, h4⟩ := runs_value (hv φ w g hw hg)
      refine ⟨v', ?_, h4⟩
      unfold execOp
      rw [ho]
      simp only [Instr.loadAt, hv', Instr.sureAddr]
      exact h3
    cases agg with
    | false =>
      obtain ⟨h3, h4⟩ := AV.atR_some q h2
      refine key _ (fun φ w g hw hg => ?_) h4
      obtain ⟨v', h5, h6⟩ := RW.cell hw hm hg h3
      unfold loadVar
      exact .bind (runs_isAgg ha (runs_load h5 ⟨rfl, h6⟩))
    | true =>
      cases ht : (cells.drop q).takeO i.size with
      | none => simp only [ht] at h2; cases h2
      | some y =>
        simp only [ht] at h2
        obtain ⟨h3, h4⟩ := AV.takeO_some i.size ht
        refine key (.ag y) (fun φ w g hw hg => ?_) h2
        have hlen : q + i.size ≤ cells.len ∨ i.size = 0 := by
          rcases Nat.eq_zero_or_pos i.size with h0 | h0
          · exact .inr h0
          · have := AV.drop_len q cells (by omega)
            exact .inl (by omega)
        unfold loadVar
        refine .bind (runs_isAgg ha (.bind (runs_sizeOf hi (.bind ?_))))
        rcases hlen with hlen | h0
        · obtain ⟨vs, h5, h6, _⟩ := RW.cells (P := P) hw hm hg hlen
          exact .of h5 (.pure ⟨rfl, vs.toArray, rfl, by rw [h4]; exact h6⟩)
        · rw [h0] at h4 ⊢
          subst h4
          exact .of (a := #[]) (w' := w) rfl (.pure ⟨rfl, #[], rfl, rfl⟩)
noncomputable def storeF (sz : Nat) (r : Id) (q : Nat) (y : AV) (hp : HP) (k : KV) : R :=
  Option.rec (motive := fun _ => R) none (fun c => hp.on fun m nx => onRow m r fun t gr fz ro cells =>
    match ro with
    | true => none
    | false => match Nat.beq c.len sz with
      | false => none
      | true => match okF fz q with
        | false => none
        | true => match Nat.ble (Nat.add q sz) cells.len with
          | false => none
          | true => k undefA (.mk (m.set r (.row t gr fz false (c.setMany q cells))) nx)) y.cellsO
theorem store_ok {t : TypeId} {x y : Operand} {i : TypeInfo} (ho : o.op = .store t x y) (hi : P.info? t = some i) :
    ValOk P G dt n ds o (fun e t hp k => ((opd G dt n ds x).run e t).on_p fun r q => storeF i.size r q ((opd G dt n ds y).run e t) hp k) := by
  intro e t0 hp k r hr
  obtain ⟨b, q, hb, h1⟩ := AV.on_p_some hr
  unfold storeF at h1
  cases hc : ((opd G dt n ds y).run e t0).cellsO with
  | none => rw [hc] at h1; cases h1
  | some c =>
  rw [hc] at h1
  cases hp with
  | mk m nx =>
  obtain ⟨t1, gr, fz, ro, cells, hm, h2⟩ := onRow_some h1
  cases ro with
  | true => cases h2
  | false =>
  simp only at h2
  split at h2
  · cases h2
  rename_i hsz
  split at h2
  · cases h2
  rename_i hfz
  split at h2
  · cases h2
  rename_i hln
  have hsz' := Nat.eq_of_beq_eq_true hsz
  have hfz' := hfz
  have hln' : q + i.size ≤ cells.len := Nat.le_of_ble_eq_true hln
  refine ⟨_, _, h2, fun φ B a w g1 g2 hw => ?_⟩
  have hx := g2 x (by rw [ho]; simp [Op.operands, Call.operands])
  have hy := g2 y (by rw [ho]; simp [Op.operands, Call.operands])
  rw [hb] at hx
  obtain ⟨g, hg, hv'⟩ := hx
  obtain ⟨h3, h4⟩ := AV.cellsO_ok hc hy
  have hl := VL.len h3
  obtain ⟨s1, s2, s3⟩ := WR.store (P := P) hw hm hg h3 (o := q) (by omega) hfz' h4
  have hv'' : a.eval x = .pointer (some ⟨g.1, q, none⟩) := hv'
  obtain ⟨w', h5, h6⟩ := runs_skip (P := P) (s := storeVar t ⟨g.1, q, none⟩ (a.eval y)) (w := w) (Q := fun _ w' => w' = w.setCells g.1 q (a.eval y).cells.toList) (by
    unfold storeVar
    refine .bind (runs_sizeOf hi ?_)
    rw [if_neg (by
      have : (a.eval y).cells.size = (a.eval y).cells.toList.length := by simp
      rw [this, hl]
      omega)]
    exact .of s1 rfl)
  subst h6
  refine ⟨φ, undef, _, .inr ⟨?_, rfl⟩, undefA_ok φ, s3, s2⟩
  unfold execOp
  rw [ho]
  simp only [Instr.storeAt, hv'', Instr.sureAddr]
  exact h5
end
end Go.Proofs.YtobaebpmdimljaaGreatDoor.Clo
end
section
namespace Go.Proofs.YtobaebpmdimljaaGreatDoor.Clo
open Go.RowKit
set_option linter.unusedVariables false
set_option linter.unusedSimpArgs false
section
variable {P : Program} {G dt n : Nat} {ds : List (Option Nat)} {o : Oper}
noncomputable def newF (t : TypeId) (cells : AV) (hp : HP) (k : Id → HP → R) : R :=
  hp.on fun m nx => match last nx with
    | true => none
    | false => k nx (.mk (m.set nx (.row t false (some 0) false cells)) (inc nx))
theorem newF_some {t : TypeId} {cells : AV} {hp : HP} {k : Id → HP → R} {x : AV × HP} (h : newF t cells hp k = some x) : ∃ m nx, hp = .mk m nx ∧ last nx = false ∧ k nx (.mk (m.set nx (.row t false (some 0) false cells)) (inc nx)) = some x := by
  cases hp with
  | mk m nx =>
  have h' : (match last nx with | true => none | false => k nx (.mk (m.set nx (.row t false (some 0) false cells)) (inc nx)) : R) = some x := h
  cases hl : last nx with
  | true => rw [hl] at h'; cases h'
  | false => rw [hl] at h'; exact ⟨m, nx, rfl, hl, h'⟩
theorem row_says {φ : Id → Option Plc} {t : TypeId} {cells : AV} {cs : Array Value} (hc : VL φ cells cs.toList) : (Blk.row t false (some 0) false cells).says φ cs.size (.cells cs t) := ⟨cs, cs.toList, [], (0, 0), rfl, by simp, hc, fun _ => rfl, rfl, fun i _ _ h => h⟩
theorem box_ok {t : TypeId} {x : Operand} (ho : o.op = .box t x) :
    MakeOk P G dt n ds o (fun e t0 hp k => Option.rec (motive := fun _ => R) none (fun c => newF t c hp fun r hp => k (.p r 0) hp) (((opd G dt n ds x).run e t0).cellsO)) := by
  intro e t0 hp k r hr
  simp only at hr
  cases hc : ((opd G dt n ds x).run e t0).cellsO with
  | none => rw [hc] at hr; cases hr
  | some c =>
  rw [hc] at hr
  obtain ⟨m, nx, e, hl, h1⟩ := newF_some hr
  refine ⟨m, nx, _, _, e, hl, rfl, h1, fun φ a w g1 g2 => ?_⟩
  have hx := g2 x (by rw [ho]; simp [Op.operands, Call.operands])
  obtain ⟨h3, _⟩ := AV.cellsO_ok hc hx
  refine ⟨.pointer (some ⟨w.heap.size, 0, none⟩), _, _, _, ?_, .alloc _ _, row_says h3, fun ψ _ hn => ⟨_, hn, rfl⟩⟩
  unfold execOp
  rw [ho]
  rfl
theorem alloc_ok {t : TypeId} {i : TypeInfo} {z : Value} {c : AV} (ho : o.op = .alloc t) (hi : P.info? t = some i) (hz : i.zero = some z) (hc : (ofConst z).cellsO = some c) :
    MakeOk P G dt n ds o (fun e t0 hp k => newF t c hp fun r hp => k (.p r 0) hp) := by
  intro e t0 hp k r hr
  obtain ⟨m, nx, e, hl, h1⟩ := newF_some hr
  refine ⟨m, nx, _, _, e, hl, rfl, h1, fun φ a w g1 g2 => ?_⟩
  obtain ⟨h3, _⟩ := AV.cellsO_ok hc (ofConst_ok φ z)
  refine ⟨.pointer (some ⟨w.heap.size, 0, none⟩), _, _, _, ?_, .alloc _ _, row_says h3, fun ψ _ hn => ⟨_, hn, rfl⟩⟩
  unfold execOp
  rw [ho]
  simp [Instr.alloc, zeroValue, typeInfo, program, Sem.run, hi, hz, newVar, newRow]
theorem extract_ok {x : Operand} {j : Nat} (ho : o.op = .extract x j) :
    PureOk P G dt n ds o (fun e t0 hp k => ((opd G dt n ds x).run e t0).on_tu fun l => l.atR j fun v => k v hp) :=
  .pure fun e t hp k r hr => by
    obtain ⟨l, hl, h1⟩ := AV.on_tu_some hr
    obtain ⟨h2, h3⟩ := AV.atR_some j h1
    refine ⟨_, h3, fun φ a w hx => ?_⟩
    obtain ⟨xs, e1, e2⟩ : ∃ xs : Array Value, a.eval x = .tuple xs ∧ VL φ l xs.toList := by have := hx x (by rw [ho]; simp [Op.operands, Call.operands]); rw [hl] at this; exact this
    have hj : j < xs.toList.length := by rw [VL.len e2]; exact h2
    have hv : xs.toList[j]? = some (xs.toList[j]'hj) := List.getElem?_eq_getElem hj
    refine ⟨xs.toList[j]'hj, ?_, VL.at e2 hv⟩
    unfold execOp
    rw [ho]
    rw [Array.getElem?_toList] at hv
    simp only [Instr.extract, e1, hv]
    rfl
def AV.ok0 : AV → Bool
  | .p _ _ => true
  | .ifc _ _ => true
  | .fn (.func _) _ _ => true
  | _ => false
theorem nilCheck_ok {x : Operand} (ho : o.op = .nilCheck x) :
    PureOk P G dt n ds o (fun e t0 hp k => match ((opd G dt n ds x).run e t0).ok0 with | true => k ((opd G dt n ds x).run e t0) hp | false => none) :=
  .pure fun e t hp k r hr => by
    split at hr
    · rename_i h0
      refine ⟨_, hr, fun φ a w hx => ⟨a.eval x, ?_, hx x (by rw [ho]; simp [Op.operands, Call.operands])⟩⟩
      have h := hx x (by rw [ho]; simp [Op.operands, Call.operands])
      unfold execOp
      rw [ho]
      generalize (opd G dt n ds x).run e t = y at h h0
      cases y <;> simp only [AV.ok0, Bool.false_eq_true] at h0
      · obtain ⟨w', e1, _⟩ := h
        simp only [e1]
        rfl
      · rename_i f _ _
        obtain ⟨xs, ys, e1, _⟩ := h
        cases f <;> simp only [Bool.false_eq_true] at h0
        simp only [e1]
        rfl
      · obtain ⟨g, _, e1⟩ := h
        simp only [e1]
        rfl
    · cases hr
theorem makeFunc_ok {f : Fn} {xs ys : Array Operand} (ho : o.op = .makeFunc f xs ys) :
    PureOk P G dt n ds o (fun e t0 hp k => k (.fn f (argsA (xs.toList.map (opd G dt n ds)) e t0) (argsA (ys.toList.map (opd G dt n ds)) e t0)) hp) :=
  .pure fun e t hp k r hr => ⟨_, hr, fun φ a w hx => ⟨.func f (xs.map a.eval) (ys.map a.eval), by unfold execOp; rw [ho]; rfl, _, _, rfl, by rw [Array.toList_map]; exact argsA_ok fun x hm => hx x (by rw [ho]; simp only [Op.operands, Array.mem_append]; exact .inl (Array.mem_toList_iff.1 hm)), by rw [Array.toList_map]; exact argsA_ok fun x hm => hx x (by rw [ho]; simp only [Op.operands, Array.mem_append]; exact .inr (Array.mem_toList_iff.1 hm))⟩⟩
theorem makeInterface_ok {t : TypeId} {x : Operand} {d : TypeDesc} (ho : o.op = .makeInterface t x) (hd : P.underlying t = some d) (hn : ∀ ms, d ≠ .interface ms) :
    PureOk P G dt n ds o (fun e t0 hp k => k (.ifc t ((opd G dt n ds x).run e t0)) hp) :=
  .pure fun e t0 hp k r hr => ⟨_, hr, fun φ a w hx => ⟨.iface t (a.eval x), by
    unfold execOp
    rw [ho]
    simp only [Instr.makeInterface, Sem.run_bind, run_underlying hd, Result.andThen_ok]
    cases d <;> first | rfl | exact absurd rfl (hn _), _, rfl, hx x (by rw [ho]; simp [Op.operands, Call.operands])⟩⟩
end
end Go.Proofs.YtobaebpmdimljaaGreatDoor.Clo
end
section
namespace Go.Proofs.YtobaebpmdimljaaGreatDoor.Clo
open Go.RowKit
set_option linter.unusedVariables false
set_option linter.unusedSimpArgs false
inductive EK | bool | ptr | sl | map | fn | ifc
def EK.of (P : Program) (t : TypeId) : Option EK := match P.underlying t with
  | some .bool => some .bool
  | some (.pointer _) => some .ptr
  | some (.slice _) => some .sl
  | some (.map _ _) => some .map
  | some (.func _ _ _) => some .fn
  | some (.interface _) => some .ifc
  | _ => none
def nilEq (c : Bool) : EK → AV → AV → Option Bool
  | .bool, .b x, .b y => some (x == y)
  | .ptr, .pn, .pn => some true
  | .ptr, .pn, .p _ _ => some false
  | .ptr, .p _ _, .pn => some false
  | .sl, .sn, .sn => some true
  | .sl, .sn, .sl _ _ _ _ => some false
  | .sl, .sl _ _ _ _, .sn => some false
  | .sl, .sn, .sg _ _ _ _ => some false
  | .sl, .sg _ _ _ _, .sn => some false
  | .map, .mn, .mn => some true
  | .map, .mn, .mp _ => some false
  | .map, .mp _, .mn => some false
  | .fn, .fnil, .fnil => some true
  | .fn, .fnil, .fn _ _ _ => some false
  | .fn, .fn _ _ _, .fnil => some false
  | .ifc, .inil, .inil => match c with | true => some true | false => none
  | .ifc, .inil, .ifc _ _ => some false
  | .ifc, .ifc _ _, .inil => some false
  | _, _, _ => none
def shiftF (op : BinOp) (k : IntKind) (x y : Int) : Option AV := match y with
  | .ofNat m => match op with
    | .shl => some (.i k (k.wrap (x * 2 ^ (min m k.bits))))
    | .shr => some (.i k (x.fdiv (2 ^ (min m k.bits))))
    | _ => none
  | _ => none
noncomputable def binF (ek : Option EK) (c : Bool) (op : BinOp) (a b : AV) : Option AV := match a, b with
  | .i k x, .i k' y => match op with
    | .shl => shiftF .shl k x y
    | .shr => shiftF .shr k x y
    | _ => if k = k' then intBin op k x y else none
  | .s l, .s m => strBin op l m
  | a, b => match ek with
    | none => none
    | some ek => match op with
      | .eql => match nilEq c ek a b with | some z => some (.b z) | none => none
      | .neq => match nilEq c ek a b with | some z => some (.b (!z)) | none => none
      | _ => none
def isConst : Operand → Bool
  | .const _ => true
  | _ => false
section
variable {P : Program} {G dt n : Nat} {ds : List (Option Nat)} {o : Oper}
theorem guard_run (op : BinOp) (t : TypeId) (x y : Operand) (a b : Value) (w : World) (h : (∃ v, a = v ∧ (∀ xs, v ≠ .agg xs) ∧ v ≠ .nilIface) ∨ (a = .nilIface ∧ (b ≠ .nilIface ∨ isConst x = true ∨ isConst y = true))) :
    (eqGuard op t x y a b).run P w = .ok () w := by
  rcases h with ⟨v, rfl, h1, h2⟩ | ⟨rfl, h3⟩
  · cases op <;> cases a <;> first | rfl | exact absurd rfl (h1 _) | exact absurd rfl h2
  · rcases h3 with h3 | h3 | h3
    · cases op <;> cases b <;> first | rfl | exact absurd rfl h3
    · cases x <;> first | (cases h3; done) | (cases op <;> cases b <;> rfl)
    · cases y <;> first | (cases h3; done) | (cases op <;> cases b <;> cases x <;> rfl)
theorem ek_of {t : TypeId} {ek : EK} (h : EK.of P t = some ek) : match ek with
    | .bool => P.underlying t = some .bool
    | .ptr => ∃ e, P.underlying t = some (.pointer e)
    | .sl => ∃ e, P.underlying t = some (.slice e)
    | .map => ∃ k e, P.underlying t = some (.map k e)
    | .fn => ∃ a b c, P.underlying t = some (.func a b c)
    | .ifc => ∃ ms, P.underlying t = some (.interface ms) := by
  unfold EK.of at h
  split at h <;> first | (cases h; done) | skip
  all_goals
    rename_i hu
    cases h
    first | exact hu | exact ⟨_, hu⟩ | exact ⟨_, _, hu⟩ | exact ⟨_, _, _, hu⟩
theorem equal_run {t : TypeId} {d : TypeDesc} {x y : Value} {z : Bool} {w : World} (hu : P.underlying t = some d) (h : (match d, x, y with
    | .bool, .bool a, .bool b => some (a == b)
    | .pointer _, .pointer none, .pointer b => some b.isNone
    | .pointer _, .pointer (some _), .pointer none => some false
    | .slice _, .slice none _ _, .slice b _ _ => some b.isNone
    | .slice _, .slice (some _) _ _, .slice none _ _ => some false
    | .map _ _, .map none, .map b => some b.isNone
    | .map _ _, .map (some _), .map none => some false
    | .func _ _ _, .nilFunc, .nilFunc => some true
    | .func _ _ _, .nilFunc, .func _ _ _ => some false
    | .func _ _ _, .func _ _ _, .nilFunc => some false
    | .interface _, .nilIface, .nilIface => some true
    | .interface _, .nilIface, .iface _ _ => some false
    | .interface _, .iface _ _, .nilIface => some false
    | _, _, _ => none) = some z) : (Op.equal t x y).run P w = .ok z w := by
  show (Op.equalIn (9999 + 1) t x y).run P w = _
  rw [Op.equalIn, Sem.run_bind, run_underlying hu]
  split at h <;> first | (cases h; done) | (cases h; rfl)
theorem bin_ok {op : BinOp} {t yt : TypeId} {x y : Operand} (ho : o.op = .binOp op t x y yt) :
    PureOk P G dt n ds o (fun e t0 hp k => Option.rec (motive := fun _ => R) none (fun v => k v hp) (binF (EK.of P t) (isConst x || isConst y) op ((opd G dt n ds x).run e t0) ((opd G dt n ds y).run e t0))) :=
  .pure fun e t0 hp k r hr => by
    cases hb : binF (EK.of P t) (isConst x || isConst y) op ((opd G dt n ds x).run e t0) ((opd G dt n ds y).run e t0) with
    | none => rw [hb] at hr; cases hr
    | some v =>
    rw [hb] at hr
    refine ⟨v, hr, fun φ a w hx => ?_⟩
    have h1 := (hx x (by rw [ho]; simp [Op.operands, Call.operands]))
    have h2 := (hx y (by rw [ho]; simp [Op.operands, Call.operands]))
    generalize (opd G dt n ds x).run e t0 = A at hb h1
    generalize (opd G dt n ds y).run e t0 = B at hb h2
    have fin : ∀ (va vb v' : Value), a.eval x = va → a.eval y = vb → (eqGuard op t x y va vb).run P w = .ok () w → (Go.binOp op t va vb).run P w = .ok v' w → VR φ v v' → ∃ v', (execOp a.eval o).run P w = .ok (.value v') w ∧ VR φ v v' := by
      intro va vb v' e1 e2 e3 e4 e5
      refine ⟨v', ?_, e5⟩
      unfold execOp
      rw [ho]
      simp only [e1, e2, Sem.run_bind, e3, Result.andThen_ok, e4]
      rfl
    unfold binF at hb
    split at hb
    · rename_i k u k' u'
      have e1 : a.eval x = .int k u := h1
      have e2 : a.eval y = .int k' u' := h2
      have hg : (eqGuard op t x y (.int k u) (.int k' u')).run P w = .ok () w := guard_run op t x y _ _ w (.inl ⟨_, rfl, (fun _ h => by cases h), (fun h => by cases h)⟩)
      have shf : ∀ op', op = op' → (op' = .shl ∨ op' = .shr) → shiftF op' k u u' = some v → ∃ v', (execOp a.eval o).run P w = .ok (.value v') w ∧ VR φ v v' := by
        intro op' eop hop hs
        subst eop
        unfold shiftF at hs
        split at hs
        · rename_i m
          rcases hop with rfl | rfl
          · simp only [Option.some.injEq] at hs
            subst hs
            exact fin _ _ (.int k (k.wrap (u * 2 ^ (min m k.bits)))) e1 e2 hg (by simp [Go.binOp, Op.shift]; intro h; omega) rfl
          · simp only [Option.some.injEq] at hs
            subst hs
            exact fin _ _ (.int k (u.fdiv (2 ^ (min m k.bits)))) e1 e2 hg (by simp [Go.binOp, Op.shift]; intro h; omega) rfl
        · cases hs
      split at hb
      · exact shf .shl rfl (.inl rfl) hb
      · exact shf .shr rfl (.inr rfl) hb
      · split at hb
        · rename_i hk
          subst hk
          obtain ⟨v', h3, h4⟩ := intBin_ok (P := P) hb φ t w
          exact fin _ _ v' e1 e2 hg h3 h4
        · cases hb
    · rename_i l m
      obtain ⟨e1, b1⟩ := h1
      obtain ⟨e2, b2⟩ := h2
      obtain ⟨v', h3, h4⟩ := strBin_ok (P := P) b1 b2 hb φ t w
      exact fin _ _ v' e1 e2 (guard_run op t x y _ _ w (.inl ⟨_, rfl, (fun _ h => by cases h), (fun h => by cases h)⟩)) h3 h4
    · split at hb
      · cases hb
      · rename_i ek hek
        have key : ∀ z, nilEq (isConst x || isConst y) ek A B = some z → (eqGuard op t x y (a.eval x) (a.eval y)).run P w = .ok () w ∧ (Op.equal t (a.eval x) (a.eval y)).run P w = .ok z w ∧
            (op = .eql → (Go.binOp op t (a.eval x) (a.eval y)).run P w = .ok (.bool z) w) ∧ (op = .neq → (Go.binOp op t (a.eval x) (a.eval y)).run P w = .ok (.bool (!z)) w) := by
          intro z hz
          have mk : ∀ va vb, a.eval x = va → a.eval y = vb → (eqGuard op t x y va vb).run P w = .ok () w → (Op.equal t va vb).run P w = .ok z w → (∀ k u, va ≠ .int k u) → (∀ k u, va ≠ .float k u) → (∀ k u v, va ≠ .complex k u v) → (∀ s, va ≠ .string s) →
              (eqGuard op t x y (a.eval x) (a.eval y)).run P w = .ok () w ∧ (Op.equal t (a.eval x) (a.eval y)).run P w = .ok z w ∧
              (op = .eql → (Go.binOp op t (a.eval x) (a.eval y)).run P w = .ok (.bool z) w) ∧ (op = .neq → (Go.binOp op t (a.eval x) (a.eval y)).run P w = .ok (.bool (!z)) w) := by
            intro va vb e1 e2 g1 g2 n1 n2 n3 n4
            rw [e1, e2]
            refine ⟨g1, g2, fun h => ?_, fun h => ?_⟩
            · subst h
              have : Go.binOp .eql t va vb = (do Pure.pure (.bool (← Op.equal t va vb))) := by
                cases va <;> first | rfl | exact absurd rfl (n1 _ _) | exact absurd rfl (n2 _ _) | exact absurd rfl (n3 _ _ _) | exact absurd rfl (n4 _)
              rw [this, Sem.run_bind, g2]; rfl
            · subst h
              have : Go.binOp .neq t va vb = (do Pure.pure (.bool (!(← Op.equal t va vb)))) := by
                cases va <;> first | rfl | exact absurd rfl (n1 _ _) | exact absurd rfl (n2 _ _) | exact absurd rfl (n3 _ _ _) | exact absurd rfl (n4 _)
              rw [this, Sem.run_bind, g2]; rfl
          have hu := ek_of hek
          have no : ∀ va vb, (∀ xs, va ≠ .agg xs) → va ≠ .nilIface → (eqGuard op t x y va vb).run P w = .ok () w := fun va vb q1 q2 => guard_run op t x y va vb w (.inl ⟨va, rfl, q1, q2⟩)
          have ni : ∀ vb, vb ≠ .nilIface → (eqGuard op t x y .nilIface vb).run P w = .ok () w := fun vb q => guard_run op t x y _ vb w (.inr ⟨rfl, .inl q⟩)
          unfold nilEq at hz
          split at hz <;> first | (cases hz; done) | skip
          · simp only at hu
            simp only [Option.some.injEq] at hz
            subst hz
            have e1 : a.eval x = .bool _ := h1
            have e2 : a.eval y = .bool _ := h2
            exact mk _ _ e1 e2 (no _ _ (fun _ h => by cases h) (fun h => by cases h)) (equal_run hu rfl) (fun _ _ h => by cases h) (fun _ _ h => by cases h) (fun _ _ _ h => by cases h) (fun _ h => by cases h)
          · obtain ⟨_, hu⟩ := hu
            simp only [Option.some.injEq] at hz
            subst hz
            have e1 : a.eval x = .pointer none := h1
            have e2 : a.eval y = .pointer none := h2
            exact mk _ _ e1 e2 (no _ _ (fun _ h => by cases h) (fun h => by cases h)) (equal_run hu rfl) (fun _ _ h => by cases h) (fun _ _ h => by cases h) (fun _ _ _ h => by cases h) (fun _ h => by cases h)
          · obtain ⟨_, hu⟩ := hu
            simp only [Option.some.injEq] at hz
            subst hz
            have e1 : a.eval x = .pointer none := h1
            obtain ⟨ge2, _, e2⟩ := h2
            exact mk _ _ e1 e2 (no _ _ (fun _ h => by cases h) (fun h => by cases h)) (equal_run hu rfl) (fun _ _ h => by cases h) (fun _ _ h => by cases h) (fun _ _ _ h => by cases h) (fun _ h => by cases h)
          · obtain ⟨_, hu⟩ := hu
            simp only [Option.some.injEq] at hz
            subst hz
            obtain ⟨ge1, _, e1⟩ := h1
            have e2 : a.eval y = .pointer none := h2
            exact mk _ _ e1 e2 (no _ _ (fun _ h => by cases h) (fun h => by cases h)) (equal_run hu rfl) (fun _ _ h => by cases h) (fun _ _ h => by cases h) (fun _ _ _ h => by cases h) (fun _ h => by cases h)
          · obtain ⟨_, hu⟩ := hu
            simp only [Option.some.injEq] at hz
            subst hz
            have e1 : a.eval x = .slice none 0 0 := h1
            have e2 : a.eval y = .slice none 0 0 := h2
            exact mk _ _ e1 e2 (no _ _ (fun _ h => by cases h) (fun h => by cases h)) (equal_run hu rfl) (fun _ _ h => by cases h) (fun _ _ h => by cases h) (fun _ _ _ h => by cases h) (fun _ h => by cases h)
          · obtain ⟨_, hu⟩ := hu
            simp only [Option.some.injEq] at hz
            subst hz
            have e1 : a.eval x = .slice none 0 0 := h1
            obtain ⟨ge2, ke2, _, e2, _⟩ := h2
            exact mk _ _ e1 e2 (no _ _ (fun _ h => by cases h) (fun h => by cases h)) (equal_run hu rfl) (fun _ _ h => by cases h) (fun _ _ h => by cases h) (fun _ _ _ h => by cases h) (fun _ h => by cases h)
          · obtain ⟨_, hu⟩ := hu
            simp only [Option.some.injEq] at hz
            subst hz
            obtain ⟨ge1, ke1, _, e1, _⟩ := h1
            have e2 : a.eval y = .slice none 0 0 := h2
            exact mk _ _ e1 e2 (no _ _ (fun _ h => by cases h) (fun h => by cases h)) (equal_run hu rfl) (fun _ _ h => by cases h) (fun _ _ h => by cases h) (fun _ _ _ h => by cases h) (fun _ h => by cases h)
          · obtain ⟨_, hu⟩ := hu
            simp only [Option.some.injEq] at hz
            subst hz
            have e1 : a.eval x = .slice none 0 0 := h1
            obtain ⟨ge2, ke2, _, e2, _⟩ := h2
            exact mk _ _ e1 e2 (no _ _ (fun _ h => by cases h) (fun h => by cases h)) (equal_run hu rfl) (fun _ _ h => by cases h) (fun _ _ h => by cases h) (fun _ _ _ h => by cases h) (fun _ h => by cases h)
          · obtain ⟨_, hu⟩ := hu
            simp only [Option.some.injEq] at hz
            subst hz
            obtain ⟨ge1, ke1, _, e1, _⟩ := h1
            have e2 : a.eval y = .slice none 0 0 := h2
            exact mk _ _ e1 e2 (no _ _ (fun _ h => by cases h) (fun h => by cases h)) (equal_run hu rfl) (fun _ _ h => by cases h) (fun _ _ h => by cases h) (fun _ _ _ h => by cases h) (fun _ h => by cases h)
          · obtain ⟨_, _, hu⟩ := hu
            simp only [Option.some.injEq] at hz
            subst hz
            have e1 : a.eval x = .map none := h1
            have e2 : a.eval y = .map none := h2
            exact mk _ _ e1 e2 (no _ _ (fun _ h => by cases h) (fun h => by cases h)) (equal_run hu rfl) (fun _ _ h => by cases h) (fun _ _ h => by cases h) (fun _ _ _ h => by cases h) (fun _ h => by cases h)
          · obtain ⟨_, _, hu⟩ := hu
            simp only [Option.some.injEq] at hz
            subst hz
            have e1 : a.eval x = .map none := h1
            obtain ⟨ge2, _, e2⟩ := h2
            exact mk _ _ e1 e2 (no _ _ (fun _ h => by cases h) (fun h => by cases h)) (equal_run hu rfl) (fun _ _ h => by cases h) (fun _ _ h => by cases h) (fun _ _ _ h => by cases h) (fun _ h => by cases h)
          · obtain ⟨_, _, hu⟩ := hu
            simp only [Option.some.injEq] at hz
            subst hz
            obtain ⟨ge1, _, e1⟩ := h1
            have e2 : a.eval y = .map none := h2
            exact mk _ _ e1 e2 (no _ _ (fun _ h => by cases h) (fun h => by cases h)) (equal_run hu rfl) (fun _ _ h => by cases h) (fun _ _ h => by cases h) (fun _ _ _ h => by cases h) (fun _ h => by cases h)
          · obtain ⟨_, _, _, hu⟩ := hu
            simp only [Option.some.injEq] at hz
            subst hz
            have e1 : a.eval x = .nilFunc := h1
            have e2 : a.eval y = .nilFunc := h2
            exact mk _ _ e1 e2 (no _ _ (fun _ h => by cases h) (fun h => by cases h)) (equal_run hu rfl) (fun _ _ h => by cases h) (fun _ _ h => by cases h) (fun _ _ _ h => by cases h) (fun _ h => by cases h)
          · obtain ⟨_, _, _, hu⟩ := hu
            simp only [Option.some.injEq] at hz
            subst hz
            have e1 : a.eval x = .nilFunc := h1
            obtain ⟨xse2, yse2, e2, _⟩ := h2
            exact mk _ _ e1 e2 (no _ _ (fun _ h => by cases h) (fun h => by cases h)) (equal_run hu rfl) (fun _ _ h => by cases h) (fun _ _ h => by cases h) (fun _ _ _ h => by cases h) (fun _ h => by cases h)
          · obtain ⟨_, _, _, hu⟩ := hu
            simp only [Option.some.injEq] at hz
            subst hz
            obtain ⟨xse1, yse1, e1, _⟩ := h1
            have e2 : a.eval y = .nilFunc := h2
            exact mk _ _ e1 e2 (no _ _ (fun _ h => by cases h) (fun h => by cases h)) (equal_run hu rfl) (fun _ _ h => by cases h) (fun _ _ h => by cases h) (fun _ _ _ h => by cases h) (fun _ h => by cases h)
          · obtain ⟨_, hu⟩ := hu
            split at hz
            · rename_i hc
              simp only [Option.some.injEq] at hz
              subst hz
              have e1 : a.eval x = .nilIface := h1
              have e2 : a.eval y = .nilIface := h2
              exact mk _ _ e1 e2 (guard_run op t x y _ _ w (.inr ⟨rfl, .inr (by simpa [Bool.or_eq_true] using hc)⟩)) (equal_run hu rfl) (fun _ _ h => by cases h) (fun _ _ h => by cases h) (fun _ _ _ h => by cases h) (fun _ h => by cases h)
            · cases hz
          · obtain ⟨_, hu⟩ := hu
            simp only [Option.some.injEq] at hz
            subst hz
            have e1 : a.eval x = .nilIface := h1
            obtain ⟨we2, e2, _⟩ := h2
            exact mk _ _ e1 e2 (ni _ (fun h => by cases h)) (equal_run hu rfl) (fun _ _ h => by cases h) (fun _ _ h => by cases h) (fun _ _ _ h => by cases h) (fun _ h => by cases h)
          · obtain ⟨_, hu⟩ := hu
            simp only [Option.some.injEq] at hz
            subst hz
            obtain ⟨we1, e1, _⟩ := h1
            have e2 : a.eval y = .nilIface := h2
            exact mk _ _ e1 e2 (no _ _ (fun _ h => by cases h) (fun h => by cases h)) (equal_run hu rfl) (fun _ _ h => by cases h) (fun _ _ h => by cases h) (fun _ _ _ h => by cases h) (fun _ h => by cases h)
        cases op <;> simp only at hb <;> first | (cases hb; done) | skip
        all_goals
          split at hb
          · rename_i z hz
            simp only [Option.some.injEq] at hb
            subst hb
            obtain ⟨g1, g2, g3, g4⟩ := key z hz
            first
              | exact fin _ _ (.bool z) rfl rfl g1 (g3 rfl) rfl
              | exact fin _ _ (.bool (!z)) rfl rfl g1 (g4 rfl) rfl
          · cases hb
end
end Go.Proofs.YtobaebpmdimljaaGreatDoor.Clo
end
section
namespace Go.Proofs.YtobaebpmdimljaaGreatDoor.Clo
open Go.RowKit
set_option linter.unusedVariables false
set_option linter.unusedSimpArgs false
section
variable {P : Program} {G dt n : Nat} {ds : List (Option Nat)} {o : Oper}
theorem not_ok {t : TypeId} {x : Operand} (ho : o.op = .unOp .not t x) : PureOk P G dt n ds o (fun e t0 hp k => ((opd G dt n ds x).run e t0).on_b fun b => k (.b (Bool.rec true false b)) hp) :=
  .pure fun e t0 hp k r hr => by
    obtain ⟨b, hb, h1⟩ := AV.on_b_some hr
    refine ⟨_, h1, fun φ a w hx => ⟨.bool (!b), ?_, by cases b <;> rfl⟩⟩
    have hc : a.eval x = .bool b := by have := (hx x (by rw [ho]; simp [Op.operands, Call.operands])); rw [hb] at this; exact this
    unfold execOp
    rw [ho]
    simp only [Op.unary, hc]
    rfl
noncomputable def nthR (n : Nat) : List Nat → (Nat → R) → R :=
  Nat.rec (motive := fun _ => List Nat → (Nat → R) → R) (fun l k => List.rec (motive := fun _ => R) none (fun x _ _ => k x) l) (fun _ ih l k => List.rec (motive := fun _ => R) none (fun _ r _ => ih r k) l) n
theorem nthR_some : ∀ (n : Nat) {l : List Nat} {k : Nat → R} {x : AV × HP}, nthR n l k = some x → ∃ b, l[n]? = some b ∧ k b = some x
  | 0, [], k, x, h => by cases h
  | 0, y :: l, k, x, h => ⟨y, rfl, h⟩
  | n + 1, [], k, x, h => by cases h
  | n + 1, y :: l, k, x, h => nthR_some n (l := l) h
noncomputable def onNat (a : Int) (k : Nat → R) : R := Int.rec (motive := fun _ => R) k (fun _ => none) a
theorem onNat_some {a : Int} {k : Nat → R} {x : AV × HP} (h : onNat a k = some x) : ∃ m : Nat, a = m ∧ k m = some x := by
  cases a with
  | ofNat m => exact ⟨m, rfl, h⟩
  | negSucc m => cases h
theorem indexS_ok {t : TypeId} {x y : Operand} (ho : o.op = .index t x y) (hu : P.underlying t = some .string) :
    PureOk P G dt n ds o (fun e t0 hp k => ((opd G dt n ds x).run e t0).on_s fun l => ((opd G dt n ds y).run e t0).on_i fun _ j => onNat j fun j => nthR j l fun b => k (.i .u8 (Int.ofNat b)) hp) :=
  .pure fun e t0 hp k r hr => by
    obtain ⟨l, hl, h1⟩ := AV.on_s_some hr
    obtain ⟨kd, j, hj, h2⟩ := AV.on_i_some h1
    obtain ⟨m, rfl, h3⟩ := onNat_some h2
    obtain ⟨b, hb, h4⟩ := nthR_some m h3
    refine ⟨_, h4, fun φ a w hx => ?_⟩
    obtain ⟨e1, b1⟩ : a.eval x = .string (bytesOf l) ∧ ∀ x ∈ l, x < 256 := by have := (hx x (by rw [ho]; simp [Op.operands, Call.operands])); rw [hl] at this; exact this
    have e2 : a.eval y = .int kd (m : Int) := by have := (hx y (by rw [ho]; simp [Op.operands, Call.operands])); rw [hj] at this; exact this
    have hb' : b < 256 := b1 b (List.mem_of_getElem? hb)
    have hg : (bytesOf l)[(m : Int).toNat]? = some (UInt8.ofNat b) := by rw [Int.toNat_natCast, bytes_get, hb]; rfl
    refine ⟨.int .u8 b, ?_, rfl⟩
    unfold execOp
    rw [ho]
    simp only [Instr.index, e1, e2, asIntOf, Sem.run_bind, Sem.run_pure, Result.andThen_ok, run_underlying hu]
    rw [if_pos (Int.natCast_nonneg m), hg]
    simp [UInt8.toNat_ofNat', Nat.mod_eq_of_lt hb']
noncomputable def lenL (l : List Nat) : Nat := List.rec (motive := fun _ => Nat) 0 (fun _ _ n => Nat.succ n) l
theorem lenL_eq : ∀ l : List Nat, lenL l = l.length
  | [] => rfl
  | x :: l => congrArg Nat.succ (lenL_eq l)
theorem lenS_ok {t : TypeId} {x : Operand} (ho : o.op = .call { callee := .builtin .len, args := #[x], argTypes := #[t] }) (hu : P.underlying t = some .string) :
    PureOk P G dt n ds o (fun e t0 hp k => ((opd G dt n ds x).run e t0).on_s fun l => k (.i .i64 (Int.ofNat (lenL l))) hp) :=
  .pure fun e t0 hp k r hr => by
    obtain ⟨l, hl, h1⟩ := AV.on_s_some hr
    refine ⟨_, h1, fun φ a w hx => ⟨.int .i64 (l.length : Int), ?_, by rw [lenL_eq]; rfl⟩⟩
    obtain ⟨e1, b1⟩ : a.eval x = .string (bytesOf l) ∧ ∀ x ∈ l, x < 256 := by have := (hx x (by rw [ho]; simp [Op.operands, Call.operands])); rw [hl] at this; exact this
    unfold execOp
    rw [ho]
    simp [resolve, invoke, builtin, Builtin.len_, e1, run_underlying hu, goInt, bytes_size]
noncomputable def sliceLen (a : AV) (k : Nat → R) : R := match a with
  | .sn => k 0
  | .sl _ _ m _ => k m
  | .sg _ _ m _ => k m
  | .se _ => k 0
  | _ => none
theorem sliceLen_some {a : AV} {k : Nat → R} {x : AV × HP} (h : sliceLen a k = some x) : ∃ m, k m = some x ∧ ∀ φ v, VR φ a v → ∃ b c, v = .slice b m c := by
  unfold sliceLen at h
  split at h
  · exact ⟨0, h, fun φ v hv => ⟨none, 0, hv⟩⟩
  · rename_i r q m c
    exact ⟨m, h, fun φ v ⟨g, c', _, e, _⟩ => ⟨_, _, e⟩⟩
  · rename_i r q m c
    exact ⟨m, h, fun φ v ⟨g, c', _, e, _⟩ => ⟨_, _, e⟩⟩
  · exact ⟨0, h, fun φ v ⟨g, o, c', _, e⟩ => ⟨_, _, e⟩⟩
  · cases h
theorem lenV_ok {t el : TypeId} {x : Operand} (ho : o.op = .call { callee := .builtin .len, args := #[x], argTypes := #[t] }) (hu : P.underlying t = some (.slice el)) :
    PureOk P G dt n ds o (fun e t0 hp k => sliceLen ((opd G dt n ds x).run e t0) fun m => k (.i .i64 (Int.ofNat m)) hp) :=
  .pure fun e t0 hp k r hr => by
    obtain ⟨m, h1, h2⟩ := sliceLen_some hr
    refine ⟨_, h1, fun φ a w hx => ⟨.int .i64 (m : Int), ?_, rfl⟩⟩
    obtain ⟨b, c, e1⟩ := h2 φ _ ((hx x (by rw [ho]; simp [Op.operands, Call.operands])))
    unfold execOp
    rw [ho]
    simp [resolve, invoke, builtin, Builtin.len_, e1, run_underlying hu, goInt]
end
end Go.Proofs.YtobaebpmdimljaaGreatDoor.Clo
end
section
namespace Go.Proofs.YtobaebpmdimljaaGreatDoor.Clo
open Go.RowKit
set_option linter.unusedVariables false
set_option linter.unusedSimpArgs false
section
variable {P : Program} {G dt n : Nat} {ds : List (Option Nat)} {o : Oper}
noncomputable def AV.on_fy (a : AV) (k : Fn → AV → AV → R) (ky : Id → R) : R := AV.rec (motive := fun _ => R) none none (fun _ _ _ _ => none) none (fun _ _ _ => none) none (fun x0 x1 x2 _ _ => k x0 x1 x2) none (fun _ => none) (fun _ _ => none) (fun _ _ => none) none (fun _ _ _ _ => none) (fun _ _ _ _ => none) (fun _ => none) (fun x0 => ky x0) none (fun _ _ => none) (fun _ => none) (fun _ => none) (fun _ _ => none) a
theorem AV.on_fy_some {a : AV} {k : Fn → AV → AV → R} {ky : Id → R} {r : AV × HP} (h : a.on_fy k ky = some r) : (∃ x0 x1 x2, a = .fn x0 x1 x2 ∧ k x0 x1 x2 = some r) ∨ ∃ q, a = .yd q ∧ ky q = some r := by
  cases a <;> first | exact .inl ⟨_, _, _, rfl, h⟩ | exact .inr ⟨_, rfl, h⟩ | cases h
noncomputable def callF (g : GV) (gs : List GV) : OM := .mk fun hd e t hp k kp => (g.run e t).on_fy (fun f first cap => match f with
  | .func f => hd.c f (first.app ((argsA gs e t).app cap)) hp k kp
  | _ => none) fun q => Bool.rec (motive := fun _ => R) none (hd.y.f q (argsA gs e t) hp k) hd.y.on
theorem call_ok {f : Operand} {xs : Array Operand} {ts : Array TypeId} (ho : o.op = .call { callee := .value f, args := xs, argTypes := ts }) :
    OpOk P G dt n ds o (callF (opd G dt n ds f) (xs.toList.map (opd G dt n ds))) := by
  intro hd hok e t hp k kp r hr
  have hr' : ((opd G dt n ds f).run e t).on_fy (fun f first cap => match f with
    | .func f => hd.c f (first.app ((argsA (xs.toList.map (opd G dt n ds)) e t).app cap)) hp k kp
    | _ => none) (fun q => Bool.rec (motive := fun _ => R) none (hd.y.f q (argsA (xs.toList.map (opd G dt n ds)) e t) hp k) hd.y.on) = some r := hr
  rcases AV.on_fy_some hr' with ⟨fn, first, cap, hf, h1⟩ | ⟨q, hf, h1⟩
  rotate_left
  · cases hon : hd.y.on with
    | false => rw [hon] at h1; cases h1
    | true =>
    rw [hon] at h1
    obtain ⟨v, hp', h2, h3⟩ := hok.1 q _ hp k r h1
    refine .inl ⟨v, hp', h2, fun φ B a w g1 g2 g4 K Q hK => .inr ⟨rfl, ?_⟩⟩
    have hfv := g2 f (by rw [ho]; simp [Op.operands, Call.operands])
    rw [hf] at hfv
    obtain ⟨g, hg, e1⟩ := hfv
    have e1' : a.eval f = .func (.yield g.1) #[] #[] := e1
    have hargs : VL φ (argsA (xs.toList.map (opd G dt n ds)) e t) (xs.map a.eval).toList := by
      rw [Array.toList_map]
      exact argsA_ok fun x hm => g2 x (by rw [ho]; simp only [Op.operands, Call.operands, Array.mem_append]; exact .inr (Array.mem_toList_iff.1 hm))
    obtain ⟨fn, tmps, as', bd, r1, r2⟩ := h3 φ B w _ g g1 g4 hargs hg
    refine ⟨g.1, fn, tmps, as', bd, ?_, by unfold noDefer; rw [ho], RoundIn.mono r2 fun e w' ⟨v', e2, h4⟩ => ⟨v', e2, hK v' w' h4⟩⟩
    rw [← r1]
    unfold execOp
    rw [ho]
    simp only [resolve, e1', Deferred.ofValue, Sem.run_bind, Sem.run_pure, Result.andThen_ok, invoke, Array.empty_append]
  split at h1
  · rename_i fid
    have prep : ∀ φ (a : Act) (w : World), Glo G φ → OpsR G dt n ds φ e t a.eval o.op → ∃ ars : Array Value, VL φ (first.app ((argsA (xs.toList.map (opd G dt n ds)) e t).app cap)) ars.toList ∧ (execOp a.eval o).run P w = (callFunc fid ars).run P w := by
      intro φ a w g1 g2
      have hfv := g2 f (by rw [ho]; simp [Op.operands, Call.operands])
      rw [hf] at hfv
      obtain ⟨us, ys, e1, v1, v2⟩ := hfv
      have e1' : a.eval f = .func (.func fid) us ys := e1
      refine ⟨(us ++ xs.map a.eval) ++ ys, ?_, ?_⟩
      · rw [Array.toList_append, Array.toList_append, Array.toList_map, List.append_assoc]
        exact VL.app v1 (VL.app (argsA_ok fun x hm => g2 x (by rw [ho]; simp only [Op.operands, Call.operands, Array.mem_append]; exact .inr (Array.mem_toList_iff.1 hm))) v2)
      · unfold execOp
        rw [ho]
        simp only [resolve, e1', Deferred.ofValue, Sem.run_bind, Sem.run_pure, Result.andThen_ok, invoke]
    rcases hok.c fid _ hp k kp r h1 with ⟨v, hp', h2, h3⟩ | ⟨v, hp', h2, h3⟩
    · refine .inl ⟨v, hp', h2, fun φ B a w g1 g2 g4 K Q hK => ?_⟩
      obtain ⟨ars, hargs, hrun⟩ := prep φ a w g1 g2
      have hc := h3 φ B w _ g1 g4 hargs
      refine .inl ?_
      unfold Oper.wp
      rw [hrun]
      rcases hc with ⟨c1, c2⟩ | ⟨v', w', c1, c2⟩
      · rw [c1]
        refine Calls.mono c2 fun e' w' he => ?_
        obtain ⟨v', rfl, c3⟩ := he
        exact hK v' w' c3
      · rw [c1]
        exact hK v' w' c2
    · refine .inr ⟨v, hp', h2, fun φ B a w g1 g2 g4 K Q hQ => ?_⟩
      obtain ⟨ars, hargs, hrun⟩ := prep φ a w g1 g2
      obtain ⟨c1, c2⟩ := h3 φ B w _ g1 g4 hargs
      refine .inl ?_
      unfold Oper.wp
      rw [hrun, c1]
      refine Calls.mono c2 fun e' w' he => ?_
      obtain ⟨v', rfl, c3⟩ := he
      exact hQ v' w' c3
  · cases h1
end
end Go.Proofs.YtobaebpmdimljaaGreatDoor.Clo
end
section
namespace Go.Proofs.YtobaebpmdimljaaGreatDoor.Clo
open Go.RowKit
set_option linter.unusedVariables false
set_option linter.unusedSimpArgs false
section
variable {φ : Id → Option Plc} {h : Mem} {nx : Id} {w : World} {sts : List Site} {B : Bse sts}
theorem WR.drew (hw : WR φ B h nx w) : WR φ B h nx w.drew ∧ Step φ h nx w φ h nx w.drew :=
  ⟨⟨hw.len, hw.fresh, hw.blk, hw.inj, hw.lt, hw.base, hw.bsz, hw.loops.mono (.refl _) (show LK w w.drew from LK.same fun _ _ => rfl)⟩, ⟨.refl _, rfl, rfl, rfl, Nat.le_refl _, fun _ _ _ => rfl, fun _ _ h => h, fun _ _ h k => ⟨h, k⟩, Nat.le_refl _, fun _ _ _ => rfl, LK.same fun _ _ => rfl⟩⟩
theorem WR.del (hw : WR φ B h nx w) {r : Id} {x : Blk} {g : Plc} (hr : h.get r = some x) (hg : φ r = some g) : WR φ B (h.del r) nx w ∧ Step φ h nx w φ (h.del r) nx w := by
  have hrl := (hw.fresh r (.inl (by rw [hr]; simp))).1
  have back : ∀ q z, (h.del r).get q = some z → h.get q = some z := fun q z e => (T4.get_of_del r q h z e).1
  refine ⟨⟨hw.len, fun q hq => hw.fresh q ?_, fun q z k hq hk => hw.blk q z k (back q z hq) hk, fun q q' z z' k k' hq hq' hk hk' hkk => hw.inj q q' z z' k k' (back q z hq) (back q' z' hq') hk hk' hkk, hw.lt, fun q z k hq hz hk => hw.base q z k (back q z hq) hz hk, hw.bsz, hw.loops⟩,
    ⟨.refl _, rfl, rfl, rfl, Nat.le_refl _, fun _ _ _ => rfl, fun b _ ⟨q, z, k, h1, h2, h3, h4⟩ => ⟨q, z, k, back q z h1, h2, h3, h4⟩, fun q z hq hn => ⟨?_, hn⟩, Nat.le_refl _, fun _ _ _ => rfl, LK.refl _⟩⟩
  · rcases hq with hq | hq
    · left
      cases e : (h.del r).get q with
      | none => exact absurd e hq
      | some z => rw [back q z e]; simp
    · exact .inr hq
  · have hql := (hw.fresh q (.inl (by rw [hq]; simp))).1
    have hne : q ≠ r := fun e => by subst e; rw [hg] at hn; cases hn
    exact (T4.get_del_other r q h (hrl.trans hql.symm) hne).trans hq
theorem WR.heir (hw : WR φ B h nx w) (hl : last nx = false) {r : Id} {x y : Blk} {g : Plc} {w' : World} {o : Obj} (hr : h.get r = some x) (hx : x.ro = false) (hg : φ r = some g)
    (hos : w'.os = w.os) (htape : w'.tape = w.tape) (hout : w'.output = w.output) (hsz : w'.heap.size = w.heap.size) (hkeep : ∀ k, k ≠ g.1 → w'.heap[k]? = w.heap[k]?) (hat : w'.heap[g.1]? = some o) (ho : y.says φ g.2 o) (hlp : x.lp = false := by exact rfl) :
    WR (ext φ nx g) B ((h.del r).set nx y) (inc nx) w' ∧ Step φ h nx w (ext φ nx g) ((h.del r).set nx y) (inc nx) w' := by
  have hlk : LK w w' := by
    intro l rec e
    by_cases hl : l = g.1
    · subst hl
      obtain ⟨o0, e0, h0⟩ := hw.blk r x g hr hg
      rw [e] at e0
      cases e0
      exact (Blk.says_not_loop hlp h0).elim
    · exact ⟨rec, by rw [hkeep l hl]; exact e, rfl, rfl, rfl, rfl⟩
  obtain ⟨hn1, hn2⟩ := hw.nx_none
  have hm : More φ (ext φ nx g) := ext_more _ hn2
  have hinc := inc_num nx hl
  have hd : nx.length = DB := hw.len
  have hrl := (hw.fresh r (.inl (by rw [hr]; simp))).1
  have hne : ∀ q, h.get q ≠ none ∨ φ q ≠ none → q ≠ nx := fun q hq e => by subst e; have := (hw.fresh _ hq).2; omega
  have back : ∀ q z, ((h.del r).set nx y).get q = some z → q ≠ nx → h.get q = some z ∧ q ≠ r := fun q z e hq => T4.get_of_del r q h z (T4.get_of_set y nx q (h.del r) z e hq)
  have same : ((h.del r).set nx y).get nx = some y := T4.get_set_same y nx (h.del r)
  have fwd : ∀ q z, h.get q = some z → q ≠ r → ((h.del r).set nx y).get q = some z := fun q z e hq => by
    have hf := hw.fresh q (.inl (by rw [e]; simp))
    exact (T4.get_set_other y nx q (h.del r) (hd.trans hf.1.symm) (hne q (.inl (by rw [e]; simp)))).trans ((T4.get_del_other r q h (hrl.trans hf.1.symm) hq).trans e)
  have own : Own φ h g.1 := ⟨r, x, g, hr, hx, hg, rfl⟩
  constructor
  · refine ⟨by rw [inc_len]; exact hd, fun q hq => ?_, fun q z k hq hk => ?_, fun q q' z z' k k' hq hq' hk hk' hkk => ?_, fun q k hk => ?_, fun q z k hq hz hk => ?_, by rw [hsz]; exact hw.bsz, hw.loops.mono hm hlk⟩
    · by_cases e : q = nx
      · subst e; exact ⟨hd, by rw [hinc]; omega⟩
      · have : h.get q ≠ none ∨ φ q ≠ none := by
          rcases hq with hq | hq
          · left
            cases e' : ((h.del r).set nx y).get q with
            | none => exact absurd e' hq
            | some z => rw [(back q z e' e).1]; simp
          · right; rw [ext_other φ _ e] at hq; exact hq
        have hf := hw.fresh q this
        exact ⟨hf.1, by rw [hinc]; omega⟩
    · by_cases e : q = nx
      · subst e
        rw [same] at hq
        rw [ext_same] at hk
        cases hq; cases hk
        exact ⟨o, hat, Blk.says_more hm ho⟩
      · obtain ⟨hz, hqr⟩ := back q z hq e
        rw [ext_other φ _ e] at hk
        obtain ⟨o', h1, h2⟩ := hw.blk q z k hz hk
        exact ⟨o', (hkeep k.1 (fun ek => hqr (hw.inj q r z x k g hz hr hk hg ek))).trans h1, Blk.says_more hm h2⟩
    · by_cases e : q = nx
      · subst e
        rw [ext_same] at hk
        cases hk
        by_cases e' : q' = q
        · exact e'.symm
        · obtain ⟨hz', hqr⟩ := back q' z' hq' e'
          rw [ext_other φ _ e'] at hk'
          exact absurd (hw.inj q' r z' x k' g hz' hr hk' hg hkk.symm) hqr
      · obtain ⟨hz, hqr⟩ := back q z hq e
        rw [ext_other φ _ e] at hk
        by_cases e' : q' = nx
        · subst e'
          rw [ext_same] at hk'
          cases hk'
          exact absurd (hw.inj q r z x k g hz hr hk hg hkk) hqr
        · obtain ⟨hz', _⟩ := back q' z' hq' e'
          rw [ext_other φ _ e'] at hk'
          exact hw.inj q q' z z' k k' hz hz' hk hk' hkk
    · rw [hsz]
      by_cases e : q = nx
      · subst e; rw [ext_same] at hk; cases hk; exact hw.lt r g hg
      · rw [ext_other φ _ e] at hk; exact hw.lt q k hk
    · by_cases e : q = nx
      · subst e; rw [ext_same] at hk; cases hk; exact hw.base r x g hr hx hg
      · rw [ext_other φ _ e] at hk; exact hw.base q z k (back q z hq e).1 hz hk
  · refine ⟨hm, hos, htape, hout, by rw [hsz]; exact Nat.le_refl _, fun k hk hn => hkeep k (fun e => hn (by rw [e]; exact own)), fun k hk ⟨q, z, g', h1, h2, h3, h4⟩ => ?_, fun q z hq hn => ⟨fwd q z hq (fun e => by subst e; rw [hg] at hn; cases hn), by rw [ext_other φ _ (hne q (.inl (by rw [hq]; simp)))]; exact hn⟩, by rw [hinc]; omega, fun q hq hlt => ext_other φ _ (fun e => by subst e; omega), hlk⟩
    by_cases e : q = nx
    · subst e; rw [ext_same] at h3; cases h3; rw [← h4]; exact own
    · rw [ext_other φ _ e] at h3
      exact ⟨q, z, g', (back q z h1 e).1, h2, h3, h4⟩
end
end Go.Proofs.YtobaebpmdimljaaGreatDoor.Clo
end
section
namespace Go.Proofs.YtobaebpmdimljaaGreatDoor.Clo
open Go.RowKit
set_option linter.unusedVariables false
set_option linter.unusedSimpArgs false
noncomputable def bytesA (l : List Nat) : AV := List.rec (motive := fun _ => AV) .nil (fun x _ r => .cons (.i .u8 (Int.ofNat x)) r) l
theorem bytesA_ok {φ : Id → Option Plc} : ∀ {l : List Nat}, B256 l → VL φ (bytesA l) (byteCells (bytesOf l))
  | [], _ => rfl
  | x :: l, h => by
    have hx : x < 256 := h x (by simp)
    have e : byteCells (bytesOf (x :: l)) = .int .u8 ((x : Nat) : Int) :: byteCells (bytesOf l) := by
      simp [byteCells, bytesOf, UInt8.toNat_ofNat', Nat.mod_eq_of_lt hx]
    rw [e]
    exact ⟨_, _, rfl, rfl, bytesA_ok fun y hy => h y (by simp [hy])⟩
noncomputable def rowF (size : Nat) (r : Id) (q m : Nat) (hp : HP) (k : Nat → AV → R) : R :=
  hp.on fun mem _ => onRow mem r fun _ _ _ _ cells => Option.rec (motive := fun _ => R) none (fun y => match y.allOne with | true => k m y | false => none) ((cells.drop q).takeO (Nat.mul m size))
noncomputable def srcF (size : Nat) (a : AV) (hp : HP) (k : Nat → AV → R) : R := match a with
  | .sn => k 0 .nil
  | .sl r q m _ => rowF size r q m hp k
  | .sg r q m _ => rowF size r q m hp k
  | .se _ => k 0 .nil
  | .s l => match Nat.beq size 1 with
    | true => k (lenL l) (bytesA l)
    | false => none
  | _ => none
section
variable {P : Program} {tx : TypeId}
theorem drop_take {cells y : AV} {q m : Nat} (h : (cells.drop q).takeO m = some y) : (q + m ≤ cells.len ∨ m = 0) ∧ y = (cells.drop q).take m := by
  obtain ⟨h1, h2⟩ := AV.takeO_some m h
  refine ⟨?_, h2⟩
  rcases Nat.eq_zero_or_pos m with h0 | h0
  · exact .inr h0
  · have := AV.drop_len q cells (by omega)
    exact .inl (by omega)
theorem seg_ok (P : Program) {φ : Id → Option Plc} {sts : List Site} {B : Bse sts} {h : Mem} {nx : Id} {w : World} (hw : WR φ B h nx w) {r : Id} {t : TypeId} {gr : Bool} {fz : Option Nat} {ro : Bool} {cells y : AV} {g : Plc} {q m : Nat} (hr : h.get r = some (.row t gr fz ro cells)) (hg : φ r = some g) (ht : (cells.drop q).takeO m = some y) :
    ∃ vs : List Value, VL φ y vs ∧ vs.length = m ∧ ∀ j v, vs[j]? = some v → w.cell? ((⟨g.1, q, none⟩ : Addr).add j) = some v := by
  obtain ⟨h1, h2⟩ := drop_take ht
  rcases h1 with h1 | h1
  · obtain ⟨vs, _, e2, e3, e4⟩ := RW.cells (P := P) hw.rw hr hg h1
    exact ⟨vs, by rw [h2]; exact e2, e3, fun j v hv => by rw [add_lit]; exact e4 j v hv⟩
  · subst h1
    exact ⟨[], by rw [h2]; rfl, rfl, fun j v hv => by simp at hv⟩
theorem srcF_some {size : Nat} {a : AV} {hp : HP} {k : Nat → AV → R} {x : AV × HP} (h : srcF size a hp k = some x) : ∃ m y, k m y = some x ∧ ∀ {sts : List Site} φ (B : Bse sts) w v, WH φ B hp w → VR φ a v → ((∃ e', P.underlying tx = some (.slice e')) ∨ P.underlying tx = some .string) →
    ∃ news, Src P size tx v m news w ∧ VL φ y news := by
  have row : ∀ r q m, rowF size r q m hp k = some x → ∃ y, k m y = some x ∧ ∀ {sts : List Site} φ (B : Bse sts) w (g : Plc) c, WH φ B hp w → φ r = some g → ((∃ e', P.underlying tx = some (.slice e')) ∨ P.underlying tx = some .string) → ∃ news, Src P size tx (.slice (some ⟨g.1, q, none⟩) m c) m news w ∧ VL φ y news := by
    intro r q m hh
    cases hp with
    | mk mem nx =>
    obtain ⟨t, gr, fz, ro, cells, hm, h2⟩ := onRow_some hh
    cases ht : (cells.drop q).takeO (Nat.mul m size) with
    | none => simp only [ht] at h2; cases h2
    | some y =>
      simp only [ht] at h2
      split at h2
      · rename_i ho
        refine ⟨y, h2, fun φ B w g c hw hg hk => ?_⟩
        obtain ⟨vs, e1, e2, e3⟩ := seg_ok P hw hm hg ht
        have hl : vs.length = m * size := e2
        exact ⟨vs, ⟨hk, fun _ => rfl, run_firstCells_some w size m _ m c vs hl e3, run_firstCells_some w.drew size m _ m c vs hl (by simpa using e3), hl, AV.allOne_ok ho e1⟩, e1⟩
      · cases h2
  unfold srcF at h
  split at h
  · exact ⟨0, .nil, h, fun φ B w v hw hv hk => ⟨[], ⟨hk, fun _ => by have : v = _ := hv; subst this; rfl, by have : v = _ := hv; subst this; exact run_firstCells_none w size 0 0 0, by have : v = _ := hv; subst this; exact run_firstCells_none w.drew size 0 0 0, by simp, fun _ hu => by cases hu⟩, rfl⟩⟩
  · rename_i r q m c
    obtain ⟨y, h1, h2⟩ := row r q m h
    refine ⟨m, y, h1, fun φ B w v hw hv hk => ?_⟩
    obtain ⟨g, c', hg, e, _⟩ := hv
    subst e
    exact h2 φ B w g c' hw hg hk
  · rename_i r q m z
    obtain ⟨y, h1, h2⟩ := row r q m h
    refine ⟨m, y, h1, fun φ B w v hw hv hk => ?_⟩
    obtain ⟨g, c', hg, e, _⟩ := hv
    subst e
    exact h2 φ B w g c' hw hg hk
  · rename_i r
    refine ⟨0, .nil, h, fun φ B w v hw hv hk => ?_⟩
    obtain ⟨g, o, c', hg, e⟩ := hv
    subst e
    exact ⟨[], ⟨hk, fun _ => rfl, run_firstCells_some w size 0 _ 0 c' [] (by simp) (fun j u hj => by simp at hj), run_firstCells_some w.drew size 0 _ 0 c' [] (by simp) (fun j u hj => by simp at hj), by simp, fun u hu => by cases hu⟩, rfl⟩
  · rename_i l
    split at h
    · rename_i hs
      have hs' := Nat.eq_of_beq_eq_true hs
      subst hs'
      refine ⟨lenL l, bytesA l, h, fun φ B w v hw hv hk => ?_⟩
      obtain ⟨e, b1⟩ := hv
      subst e
      have hz : (bytesOf l).size = lenL l := by rw [bytes_size, lenL_eq]
      refine ⟨byteCells (bytesOf l), ⟨hk, fun _ => by rw [← hz]; rfl, by rw [← hz]; exact firstCells_string _ w, by rw [← hz]; exact firstCells_string _ w.drew, by rw [byteCells_length, hz, Nat.mul_one], fun u hu => ?_⟩, bytesA_ok b1⟩
      obtain ⟨_, _, rfl⟩ := List.mem_map.1 hu
      rfl
    · cases h
  · cases h
end
end Go.Proofs.YtobaebpmdimljaaGreatDoor.Clo
end
