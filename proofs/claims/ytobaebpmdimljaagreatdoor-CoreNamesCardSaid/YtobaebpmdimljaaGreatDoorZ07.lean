/- Part 7 of a proof laid in parts, one behind the other; no condition of its own. -/
import Derived.Test.YtobaebpmdimljaaGreatDoorZ06
import Derived.Laws.Strings
set_option linter.all false
section
namespace Go.Proofs.YtobaebpmdimljaaGreatDoor.Clo
open Go.RowKit
set_option linter.unusedVariables false
set_option linter.unusedSimpArgs false
set_option linter.constructorNameAsVariable false
abbrev Fw (ro : Option Nat) : Fence := { Fence.wide with round := ro }
theorem noDefer_ok {o : Oper} (h : noDefer o = true) : ∀ c, o.op ≠ .defer c := fun c e => by
  unfold noDefer at h
  rw [e] at h
  cases h
def noDf : Code → Bool
  | .region _ ops _ => ops.toList.all noDefer
  | .seq a b => noDf a && noDf b
  | .cond _ a b => noDf a && noDf b
  | .block _ a => noDf a
  | .loop a => noDf a
  | .scope a => noDf a
  | .rangeFunc _ _ _ _ => false
  | _ => true
section
variable {P : Program} {n : Nat} {ops : Array Oper} {Q : Exit → Act → World → Prop} {ro : Option Nat}
theorem wpIn_fw {c : Code} {a : Act} {w : World} : c.wpIn (Fw none) n P Q a w ↔ c.wp P Q a w := wpIn_wide
theorem rowsIn_of {row : String} {args : Array Value} {w : World} {R : Value → World → Prop} (h : Rows P row args w R) : RowsIn (Fw ro) n P row args w R :=
  fun c cs _ => let ⟨v, w', h1, h2⟩ := h c cs; ⟨v, w', h1, stepsIn_wide.2 h2⟩
theorem callsIn_of {f : FuncId} {args : Array Value} {w : World} {R : Ending → World → Prop} (h : Calls P f args w R) : CallsIn (Fw ro) n P f args w R := by
  have := callsIn_wide (n := n).2 h
  exact this
theorem operIn_of {on : Bool} {o : Oper} {a : Act} {w : World} {K K' : Act → World → Prop} (hdf : ro = none ∨ noDefer o = true) (h : OW on P o a w K Q) (hK : ∀ a w, K a w → K' a w) :
    o.wpIn (Fw ro) 0 P a w K' Q := by
  refine ⟨fun _ _ => trivial, ?_⟩
  rcases h with h | ⟨_, l, f, tmps, as', bd, hrun, hnd, hround⟩
  rotate_left
  · rw [show o.semAt (Fw ro).round a.eval = execOp a.eval o from Oper.semAt_eq _ _ _ (noDefer_ok hnd), hrun]
    refine ⟨(fun hh => by cases hh), RoundIn.mono (show RoundIn (Fw ro) 0 P l f tmps as' bd w _ from hround) fun e w' ⟨v, e1, h1⟩ => ?_⟩
    subst e1
    exact hK _ _ h1
  have e : o.semAt (Fw ro).round a.eval = execOp a.eval o := by
    rcases hdf with e | e
    · subst e; rfl
    · exact Oper.semAt_eq _ _ _ (noDefer_ok e)
  rw [e]
  unfold Oper.wp at h
  generalize (execOp a.eval o).run P w = r at h ⊢
  unfold Oper.upon at h
  split at h
  · exact hK _ _ h
  · exact hK _ _ h
  · exact hK _ _ h
  · refine ⟨(fun hh => by cases hh), callsIn_of (h.mono fun e w'' he => ?_)⟩
    cases e with
    | returned v => exact hK _ _ he
    | panicked ch => exact he
    | outgrown => exact he
  · exact ⟨(fun hh => by cases hh), rowsIn_of (h.mono fun v w'' he => hK _ _ he)⟩
  · exact h
  · exact h.elim
theorem wpIn_scope_straight {c : Code} {a : Act} {w : World} (h : c.wpIn (Fw ro) n P (Exit.noGoto Q) a w) : (Code.scope c).wpIn (Fw ro) n P Q a w := by
  intro b k cs hro hb hr
  have calm : ∀ {fr : Frame} {cs : List Frame} {w : World}, (lone fr cs w).fenced P (Fw ro) := fun {fr cs w} => fenced_wide P _
  obtain ⟨e, a₁, w₁, hq, harr⟩ := h b (.inScope c :: k) cs hro hb hr
  have s0 : step P (lone (b.atR a (.code (.scope c) :: k)) cs w) = .next (lone (b.atR a (.code c :: .inScope c :: k)) cs w) := step_lone_go (by simp [stepG, stepG.exec, Frame.atR])
  have s1 : ∀ a w, step P (lone (b.atR a (.inScope c :: k)) cs w) = .next (lone (b.atR a k) cs w) := fun a w => step_lone_go (by simp [stepG, stepG.exec, Frame.atR])
  cases e with
  | normal => exact ⟨.normal, a₁, w₁, hq, .head calm s0 (StepsIn.trans harr (.one calm (s1 _ _)))⟩
  | exit id => exact ⟨.exit id, a₁, w₁, hq, fun k' hk => .head calm s0 (harr.1 k' (by simp [exitTo, hk])), fun hr' hk => let ⟨k₁, h1, h2⟩ := harr.2 hr' (by simp [exitTo, hk]); ⟨k₁, h1, .head calm s0 h2⟩⟩
  | goto l => exact hq.elim
  | ret => exact ⟨_, a₁, w₁, hq, .of_steps (.one calm s0) harr⟩
  | panic ch => exact ⟨_, a₁, w₁, hq, .of_steps (.one calm s0) harr⟩
  | outgrown => exact ⟨_, a₁, w₁, hq, .of_steps (.one calm s0) harr⟩
end
theorem ExR.out {φ : Id → Option Plc} {x : Ex} {x' : Exit} (h : ExR φ x x') : x' ≠ .outgrown := by
  cases x with
  | normal => have : x' = _ := h; subst this; exact nofun
  | exit i => have : x' = _ := h; subst this; exact nofun
  | ret => have : x' = _ := h; subst this; exact nofun
  | pan v => obtain ⟨v', e, _⟩ := h; subst e; exact nofun
theorem WR.loopPut {φ : Id → Option Plc} {sts : List Site} {B : Bse sts} {h : Mem} {nx : Id} {w : World} (hw : WR φ B h nx w) {r : Id} {st : LoopState} {pend : Option Code} {g : Plc} (hr : h.get r = some (.loop st pend)) (hg : φ r = some g) :
    ∃ rec : Loop, w.heap[g.1]? = some (.loop rec) ∧ rec.state = st ∧ rec.pending = pend ∧ ∀ st' pend', WR φ B (h.set r (.loop st' pend')) nx (w.putObj g.1 (.loop { rec with state := st', pending := pend' })) ∧
      Step φ h nx w φ (h.set r (.loop st' pend')) nx (w.putObj g.1 (.loop { rec with state := st', pending := pend' })) := by
  obtain ⟨o, e, rec, rfl, h1, h2⟩ := hw.blk r _ g hr hg
  refine ⟨rec, e, h1, h2, fun st' pend' => ?_⟩
  exact hw.put hr rfl rfl hg rfl rfl rfl World.putObj_size (fun k hk => World.putObj_heap_other hk) (World.putObj_heap_same (hw.lt r g hg)) ⟨_, rfl, rfl, rfl⟩ (.inr fun rec0 e0 => ⟨_, rfl, by rw [e] at e0; cases e0; exact ⟨rfl, rfl, rfl, rfl⟩⟩)
theorem WR.tail {φ : Id → Option Plc} {s : Site} {sts : List Site} {B : Bse (s :: sts)} {h : Mem} {nx : Id} {w : World} (hw : WR φ B h nx w) :
    ∃ (c : Conc) (cs : List Conc), B.cs = c :: cs ∧ SiteR φ w s c ∧ WR φ (⟨B.b, cs⟩ : Bse sts) h nx w := by
  have hl := hw.loops
  cases hc : B.cs with
  | nil => rw [hc] at hl; exact hl.elim
  | cons c cs =>
    rw [hc] at hl
    exact ⟨c, cs, rfl, hl.1, ⟨hw.len, hw.fresh, hw.blk, hw.inj, hw.lt, hw.base, hw.bsz, hl.2⟩⟩
theorem WR.grow {φ : Id → Option Plc} {s : Site} {sts : List Site} {b : Nat} {c : Conc} {cs : List Conc} {h : Mem} {nx : Id} {w : World} (hw : WR φ (⟨b, cs⟩ : Bse sts) h nx w) (hs : SiteR φ w s c) : WR φ (⟨b, c :: cs⟩ : Bse (s :: sts)) h nx w :=
  ⟨hw.len, hw.fresh, hw.blk, hw.inj, hw.lt, hw.base, hw.bsz, hs, hw.loops⟩
noncomputable def onLoop (m : Mem) (r : Id) (k : LoopState → Option Code → R) : R := match m.get r with
  | some (.loop st pend) => k st pend
  | _ => none
theorem onLoop_some {m : Mem} {r : Id} {k : LoopState → Option Code → R} {x : AV × HP} (h : onLoop m r k = some x) : ∃ st pend, m.get r = some (.loop st pend) ∧ k st pend = some x := by
  unfold onLoop at h
  split at h
  · rename_i st pend e; exact ⟨st, pend, e, h⟩
  · cases h
def d4same : D4 → D4 → Bool
  | .a, .a | .b, .b | .c, .c | .d, .d => true
  | _, _ => false
def sameId : Id → Id → Bool
  | [], [] => true
  | x :: p, y :: q => d4same x y && sameId p q
  | _, _ => false
theorem sameId_eq : ∀ {p q : Id}, sameId p q = true → p = q
  | [], [], _ => rfl
  | [], _ :: _, h => by cases h
  | _ :: _, [], h => by cases h
  | x :: p, y :: q, h => by
    simp only [sameId, Bool.and_eq_true] at h
    have e : x = y := by cases x <;> cases y <;> first | rfl | exact absurd h.1 (by decide)
    rw [e, sameId_eq h.2]
section
variable (P : Program) (G dt n : Nat) (lo : Nat → Bool) (opM : OpM) (regM : Array Oper → Option RM) (fuel : Nat)
noncomputable def loopM (m : CM) (fuel : Nat) : Hd → Tr → HP → KC → R :=
  Nat.rec (motive := fun _ => Hd → Tr → HP → KC → R) (fun _ _ _ _ => none) (fun _ ih hd t hp k => m.run hd t hp fun x t hp => Ex.rec (ih hd t hp k) (fun j => k (.exit j) t hp) (k .ret t hp) (fun v => k (.pan v) t hp) x) fuel
noncomputable def setPs : List Tmp → AV → Tr → Option Tr
  | [], .nil, t => some t
  | d :: ps, .cons x r, t => if d < n then setPs ps r (if lo d then t else t.set (path dt d) x) else none
  | _, _, _ => none
noncomputable def roundM (ps : List Tmp) (mA mB : CM) (hd : Hd) (r : Id) (t : Tr) (args : AV) (hp : HP) (k : KV) : R :=
  onLoop hp.m r fun st _ => match st with
    | .ready => match setPs dt n lo ps args t with
      | some t1 => mA.run hd t1 hp fun x t2 hp2 => match x with
        | .normal => onLoop hp2.m r fun st2 pend2 => match st2 with
          | .ready => mB.run hd t2 (.mk (hp2.m.set r (.loop .busy pend2)) hp2.nx) fun x t3 hp3 => onLoop hp3.m r fun _ _ => match x with
            | .normal => k (.b true) (.mk (hp3.m.set r (.loop .ready none)) hp3.nx)
            | .ret => k (.b false) (.mk (hp3.m.set r (.loop .done (some .ret))) hp3.nx)
            | .exit i => k (.b false) (.mk (hp3.m.set r (.loop .done (some (.exit i)))) hp3.nx)
            | .pan _ => none
          | _ => none
        | _ => none
      | none => none
    | _ => none
noncomputable def jumpM (pend : Option Code) (k : Ex → R) : R := match pend with
  | none => k .normal
  | some .ret => k .ret
  | some (.exit i) => k (.exit i)
  | _ => none
noncomputable def rangeM (ps : Array Tmp) (as' bd : Code) (gv : GV) (mA mB : CM) : CM := .mk fun hd t hp k => (gv.run [] t).on_fn fun f first cap => match f with
  | .func fid => match hd.b.e fid with
    | true => match hp with
      | .mk m nx => match last nx, last (inc nx) with
        | false, false =>
          hd.b.c ⟨⟨inc nx, dt, n, lo, t.set (path dt n) .u, ps, as', bd⟩ :: hd.y.s, true, fun q args hp k => match sameId q (inc nx) with
              | true => roundM dt n lo ps.toList mA mB hd (inc nx) (t.set (path dt n) .u) args hp k
              | false => hd.y.f q args hp k⟩ fid (first.app (.cons (.yd (inc nx)) cap)) (.mk ((m.set nx (.dfd true)).set (inc nx) (.loop .ready none)) (inc (inc nx)))
            (fun _ hp2 => onLoop hp2.m (inc nx) fun st pend => match st with
              | .busy => none
              | _ => jumpM pend fun x => k x (t.set (path dt n) (.cons (.mp nx) (getT (path dt n) t))) (.mk (hp2.m.set (inc nx) (.loop .exhausted pend)) hp2.nx))
            (fun _ _ => none)
        | _, _ => none
    | false => none
  | _ => none
noncomputable def codeM : Code → CM
  | .skip => .mk fun _ t hp k => k .normal t hp
  | .label _ => .mk fun _ t hp k => k .normal t hp
  | .region _ ops draw => match draw with
    | false => let m := opsM G dt n lo opM ops ops.toList []; .mk fun hd t hp k => m.run hd [] t hp k
    | true => match regM ops with
      | some m => .mk fun hd t hp k => m.run hd [] t hp k
      | none => .mk fun _ _ _ _ => none
  | .seq a b => let ma := codeM a; let mb := codeM b; .mk fun hd t hp k => ma.run hd t hp fun x t hp => Ex.rec (mb.run hd t hp k) (fun i => k (.exit i) t hp) (k .ret t hp) (fun v => k (.pan v) t hp) x
  | .cond c a b => let g := opd G dt n [] c; let ma := codeM a; let mb := codeM b; .mk fun hd t hp k => (g.run [] t).on_b fun x => Bool.rec (mb.run hd t hp k) (ma.run hd t hp k) x
  | .block i a => let ma := codeM a; .mk fun hd t hp k => ma.run hd t hp fun x t hp => Ex.rec (k .normal t hp) (fun j => Bool.rec (k (.exit j) t hp) (k .normal t hp) (Nat.beq j i)) (k .ret t hp) (fun v => k (.pan v) t hp) x
  | .loop a => let ma := codeM a; .mk (loopM ma fuel)
  | .scope a => codeM a
  | .exit i => .mk fun _ t hp k => k (.exit i) t hp
  | .ret => .mk fun _ t hp k => k .ret t hp
  | .rangeFunc g ps as' bd => match noDf as' && noDf bd with
    | true => let gv := opd G dt n [] g; let mA := codeM as'; let mB := codeM bd; rangeM dt n lo ps as' bd gv mA mB
    | false => .mk fun _ _ _ _ => none
  | _ => .mk fun _ _ _ _ => none
variable {P G dt n lo opM regM fuel}
abbrev AfterC (P : Program) (G dt n : Nat) (lo : Nat → Bool) (hd : Hd) (t : Tr) (hp : HP) (x : Ex) (t' : Tr) (hp' : HP) (W : (Exit → Act → World → Prop) → Act → World → Prop) : Prop :=
  ∀ φ (B : Bse hd.y.s) a w, Glo G φ → FR φ dt n lo t a → WH φ B hp w → ∀ Q, (∀ ψ a' w' x', ExR ψ x x' → FR ψ dt n lo t' a' → StH φ hp w ψ hp' w' → WH ψ B hp' w' → Q x' a' w') → W Q a w
def CMOk (P : Program) (G dt n : Nat) (lo : Nat → Bool) (c : Code) (m : CM) : Prop :=
  ∀ hd, HdOk P G hd → ∀ t hp k r, m.run hd t hp k = some r → ∃ x t' hp', k x t' hp' = some r ∧ AfterC P G dt n lo hd t hp x t' hp' fun Q a w => ∀ ro, ro = none ∨ noDf c = true → c.wpIn (Fw ro) 0 P Q a w
theorem CMOk.wp {c : Code} {m : CM} (h : CMOk P G dt n lo c m) {hd : Hd} (hok : HdOk P G hd) {t : Tr} {hp : HP} {k : KC} {r : AV × HP} (hr : m.run hd t hp k = some r) :
    ∃ x t' hp', k x t' hp' = some r ∧ AfterC P G dt n lo hd t hp x t' hp' fun Q a w => c.wp P Q a w := by
  obtain ⟨x, t', hp', h1, h2⟩ := h hd hok t hp k r hr
  exact ⟨x, t', hp', h1, fun φ B a w g1 g2 g3 Q hQ => wpIn_fw.1 (h2 φ B a w g1 g2 g3 Q hQ none (.inl rfl))⟩
def RgOk (P : Program) (G dt n : Nat) (lo : Nat → Bool) (id : Nat) (ops : Array Oper) (m : RM) : Prop :=
  ∀ hd, HdOk P G hd → ∀ t hp k r, m.run hd [] t hp k = some r → ∃ x t' hp', k x t' hp' = some r ∧ AfterC P G dt n lo hd t hp x t' hp' fun Q a w => ∀ ro, ro = none ∨ ops.toList.all noDefer = true → (Code.region id ops true).wpIn (Fw ro) 0 P Q a w
def LW (ro : Option Nat) (P : Program) (c : Code) (Q : Exit → Act → World → Prop) (a : Act) (w : World) : Prop :=
  ∀ (b : Frame) (k : List Item) (cs : List Frame), b.roundOf = ro → ∃ e a' w', Q e a' w' ∧ ArrivesIn (Machine.fenced P Fence.wide) P (lone (b.atR a (.code c :: .inLoop c :: k)) cs w) b k cs e a' w'
theorem lw_step {ro : Option Nat} {c : Code} {Q : Exit → Act → World → Prop} {a : Act} {w : World} (h : c.wpIn (Fw ro) 0 P (Exit.then (LW ro P c Q) Q) a w) : LW ro P c Q a w := by
  intro b k cs hro
  have calm : ∀ {m : Machine}, m.fenced P Fence.wide := fun {m} => fenced_wide P m
  obtain ⟨e, a₁, w₁, hq, harr⟩ := h b (.inLoop c :: k) cs hro trivial (room_wide _)
  have harr' : ArrivesIn (Machine.fenced P Fence.wide) P (lone (b.atR a (.code c :: .inLoop c :: k)) cs w) b (.inLoop c :: k) cs e a₁ w₁ := harr
  cases e with
  | normal =>
    obtain ⟨e₂, a₂, w₂, hq₂, harr₂⟩ := hq b k cs hro
    exact ⟨e₂, a₂, w₂, hq₂, .of_steps (StepsIn.trans harr' (.one calm stepR_inLoop)) harr₂⟩
  | exit id => exact ⟨_, a₁, w₁, hq, .pass (x := .inLoop c) rfl (fun _ _ => .inl (by simp)) harr'⟩
  | goto l => exact ⟨_, a₁, w₁, hq, .pass (x := .inLoop c) rfl (fun _ _ => .inl (by simp)) harr'⟩
  | ret => exact ⟨_, a₁, w₁, hq, .pass (x := .inLoop c) rfl (fun _ _ => .inl (by simp)) harr'⟩
  | panic ch => exact ⟨_, a₁, w₁, hq, .pass (x := .inLoop c) rfl (fun _ _ => .inl (by simp)) harr'⟩
  | outgrown => exact ⟨_, a₁, w₁, hq, .pass (x := .inLoop c) rfl (fun _ _ => .inl (by simp)) harr'⟩
theorem wp_of_lw {ro : Option Nat} {c : Code} {Q : Exit → Act → World → Prop} {a : Act} {w : World} (h : LW ro P c Q a w) : (Code.loop c).wpIn (Fw ro) 0 P Q a w := by
  intro b k cs hro _ _
  obtain ⟨e, a', w', hq, harr⟩ := h b k cs hro
  have calm : ∀ {m : Machine}, m.fenced P Fence.wide := fun {m} => fenced_wide P m
  have h2 : ArrivesIn (Machine.fenced P Fence.wide) P (lone (b.atR a (.code (.loop c) :: k)) cs w) b k cs e a' w' := .of_steps (.one calm stepR_loop) harr
  exact ⟨e, a', w', hq, h2⟩
theorem ExR.to {φ : Id → Option Plc} {x : Ex} {x' : Exit} (h : ExR φ x x') : (x = .normal ∧ x' = .normal) ∨ (x ≠ .normal ∧ x' ≠ .normal) := by
  cases x with
  | normal => exact .inl ⟨rfl, h⟩
  | exit i => have : x' = _ := h; subst this; exact .inr ⟨nofun, nofun⟩
  | ret => have : x' = _ := h; subst this; exact .inr ⟨nofun, nofun⟩
  | pan v => obtain ⟨v', e, _⟩ := h; subst e; exact .inr ⟨nofun, nofun⟩
theorem then_of {next : Act → World → Prop} {Q : Exit → Act → World → Prop} {x' : Exit} {a : Act} {w : World} (hn : x' ≠ .normal) (h : Q x' a w) : Exit.then next Q x' a w := by
  cases x' <;> first | exact absurd rfl hn | exact h
theorem loop_ok {c : Code} {m : CM} (hm : CMOk P G dt n lo c m) (hd : Hd) (hok : HdOk P G hd) : ∀ (fuel : Nat) (t : Tr) (hp : HP) (k : KC) r, loopM m fuel hd t hp k = some r → ∃ x t' hp', k x t' hp' = some r ∧
    AfterC P G dt n lo hd t hp x t' hp' fun Q a w => ∀ ro, ro = none ∨ noDf c = true → LW ro P c Q a w
  | 0, t, hp, k, r, hr => by cases hr
  | j + 1, t, hp, k, r, hr => by
    obtain ⟨x1, t1, hp1, h1, h2⟩ := hm hd hok t hp _ r hr
    have out : ∀ x1', x1' ≠ .normal → x1 = x1' → k x1' t1 hp1 = some r → ∃ x t' hp', k x t' hp' = some r ∧
        AfterC P G dt n lo hd t hp x t' hp' fun Q a w => ∀ ro, ro = none ∨ noDf c = true → LW ro P c Q a w := by
      intro x1' hne e hk
      subst e
      exact ⟨x1, t1, hp1, hk, fun φ B a w g1 g2 g3 Q hQ ro hro => lw_step (h2 φ B a w g1 g2 g3 _ (fun ψ a' w' x' f0 f1 f2 f3 => then_of (by rcases f0.to with ⟨e, _⟩ | ⟨_, e⟩; exact absurd e hne; exact e) (hQ ψ a' w' x' f0 f1 f2 f3)) ro hro)⟩
    cases x1 with
    | normal =>
      obtain ⟨x, t', hp', h3, h4⟩ := loop_ok hm hd hok j t1 hp1 k r h1
      refine ⟨x, t', hp', h3, fun φ B a w g1 g2 g3 Q hQ ro hro => lw_step ?_⟩
      refine h2 φ B a w g1 g2 g3 _ (fun ψ a' w' x' f0 f1 f2 f3 => ?_) ro hro
      have : x' = .normal := f0
      subst this
      exact h4 ψ B a' w' (g1.more f2.more) f1 f3 Q (fun χ a'' w'' x'' e0 e1 e2 e3 => hQ χ a'' w'' x'' e0 e1 (f2.trans e2) e3) ro hro
    | exit i => exact out (.exit i) nofun rfl h1
    | ret => exact out .ret nofun rfl h1
    | pan v => exact out (.pan v) nofun rfl h1
theorem opsM_ok (hop : ∀ ds o q, opM ds o = some q → OmOk P G dt n ds o q) (ops : Array Oper) {hd : Hd} (hok : HdOk P G hd) {t : Tr} {hp : HP} {k : KC} {r : AV × HP} (hr : (opsM G dt n lo opM ops ops.toList []).run hd [] t hp k = some r) :
    ∃ x t' hp', k x t' hp' = some r ∧ AfterC P G dt n lo hd t hp x t' hp' fun Q a w => ∀ ro, ro = none ∨ ops.toList.all noDefer = true → wpOpsIn (Fw ro) 0 P ops Q (List.range ops.size) a w := by
  obtain ⟨x, t', hp', h1, h2⟩ := opsM_gen (P := P) hop ops hd.y.on (fun Q l a w => ∀ ro j, ro = none ∨ l.all noDefer = true → ops.toList.drop j = l → wpOpsIn (Fw ro) 0 P ops Q (List.range' j l.length) a w)
    (fun Q a w h ro j _ _ => h)
    (fun Q o l a w h ro j hro hj => by
      have hj0 : ops[j]? = some o := by
        rw [← Array.getElem?_toList]
        have := congrArg (fun l => l[0]?) hj
        simpa using this
      have hro' : (ro = none ∨ noDefer o = true) ∧ (ro = none ∨ l.all noDefer = true) := by
        rcases hro with e | e
        · exact ⟨.inl e, .inl e⟩
        · rw [List.all_cons, Bool.and_eq_true] at e
          exact ⟨.inr e.1, .inr e.2⟩
      have hjl : ops.toList.drop (j + 1) = l := by
        rw [← List.drop_drop, hj]
        rfl
      have h' := h (fun a w => wpOpsIn (Fw ro) 0 P ops Q (List.range' (j + 1) l.length) a w) fun a w hW => hW ro (j + 1) hro'.2 hjl
      rw [List.length_cons, List.range'_succ]
      unfold wpOpsIn
      simp only [hj0]
      split
      · rename_i hw
        rw [if_pos hw] at h'
        exact operIn_of hro'.1 h' fun a w k => k
      · rename_i hw
        rw [if_neg hw] at h'
        exact ⟨fun _ _ => trivial, h'⟩) ops.toList [] hd rfl hok [] t hp k r hr
  refine ⟨x, t', hp', h1, fun φ B a w g1 g2 g3 Q hQ ro hro => ?_⟩
  have := h2 φ B a w g1 g2 (EnvR.nil φ [] _) g3 Q hQ ro 0 hro (by simp)
  rw [List.range_eq_range']
  rw [Array.length_toList] at this
  exact this
theorem FR.mark {φ : Id → Option Plc} {t : Tr} {a : Act} (hf : FR φ dt n lo t a) {q : Id} {g : Plc} (hq : φ q = some g) : FR φ dt n lo (t.set (path dt n) (.cons (.mp q) (getT (path dt n) t))) { a with defers := { target := .collected g.1, args := #[] } :: a.defers } := by
  have ne : ∀ k, k < n → path dt k ≠ path dt n := fun k hk e => Nat.ne_of_lt hk (path_inj dt k n (Nat.lt_trans hk hf.cap) hf.cap e)
  refine ⟨hf.sz, hf.cap, fun k hk => ?_, fun k hk hl => ?_, ?_⟩
  · rw [getT_get, T4.get_set_other _ _ _ _ (by rw [path_len, path_len]) (ne k hk), ← getT_get]; exact hf.at' k hk
  · rw [getT_get, T4.get_set_other _ _ _ _ (by rw [path_len, path_len]) (ne k hk), ← getT_get]; exact hf.lo k hk hl
  · rw [getT_get (path dt n) (t.set _ _), T4.get_set_same]
    exact ⟨g, a.defers, hq, rfl, hf.df⟩
theorem FR.setS {φ : Id → Option Plc} {t : Tr} {a : Act} (hf : FR φ dt n lo t a) {d : Nat} {x : AV} {v : Value} (hd : d < n) (hx : VR φ x v) : FR φ dt n lo (if lo d then t else t.set (path dt d) x) { a with tmps := a.tmps.setIfInBounds d v } := by
  by_cases hl : lo d = true
  · rw [if_pos hl]; exact hf.put_lo (v' := v) hd hl
  · rw [if_neg hl]; exact hf.put (v' := v) hd (by simpa using hl) hx
theorem setPs_ok {φ : Id → Option Plc} : ∀ {ps : List Tmp} {args : AV} {t t1 : Tr} {vs : List Value} {tmps : Array Value}, setPs dt n lo ps args t = some t1 → VL φ args vs → FR φ dt n lo t { tmps := tmps, defers := [] } →
    vs.length = ps.length ∧ FR φ dt n lo t1 { tmps := (ps.zip vs).foldl (fun tmps (t, a) => tmps.setIfInBounds t a) tmps, defers := [] }
  | [], .nil, t, t1, vs, tmps, h, hv, hf => by
    have hv' : vs = [] := hv
    subst hv'
    cases h
    exact ⟨rfl, hf⟩
  | d :: ps, .cons x r, t, t1, vs, tmps, h, ⟨v, vs', e, h1, h2⟩, hf => by
    subst e
    unfold setPs at h
    split at h
    · rename_i hd
      have hf' : FR φ dt n lo (if lo d then t else t.set (path dt d) x) { tmps := tmps.setIfInBounds d v, defers := [] } := FR.setS (a := { tmps := tmps, defers := [] }) hf hd h1
      obtain ⟨q1, q2⟩ := setPs_ok h h2 hf'
      exact ⟨by simp [q1], q2⟩
    · cases h
  | [], .cons _ _, t, t1, vs, tmps, h, hv, hf => by cases h
  | d :: ps, .nil, t, t1, vs, tmps, h, hv, hf => by cases h
  | [], .u, t, t1, vs, tmps, h, hv, hf => hv.elim
  | d :: ps, .u, t, t1, vs, tmps, h, hv, hf => hv.elim
  | [], .inil, t, t1, vs, tmps, h, hv, hf => hv.elim
  | d :: ps, .inil, t, t1, vs, tmps, h, hv, hf => hv.elim
  | [], .ifc _ _, t, t1, vs, tmps, h, hv, hf => hv.elim
  | d :: ps, .ifc _ _, t, t1, vs, tmps, h, hv, hf => hv.elim
  | [], .fnil, t, t1, vs, tmps, h, hv, hf => hv.elim
  | d :: ps, .fnil, t, t1, vs, tmps, h, hv, hf => hv.elim
  | [], .fn _ _ _, t, t1, vs, tmps, h, hv, hf => hv.elim
  | d :: ps, .fn _ _ _, t, t1, vs, tmps, h, hv, hf => hv.elim
  | [], .mn, t, t1, vs, tmps, h, hv, hf => hv.elim
  | d :: ps, .mn, t, t1, vs, tmps, h, hv, hf => hv.elim
  | [], .mp _, t, t1, vs, tmps, h, hv, hf => hv.elim
  | d :: ps, .mp _, t, t1, vs, tmps, h, hv, hf => hv.elim
  | [], .tu _, t, t1, vs, tmps, h, hv, hf => hv.elim
  | d :: ps, .tu _, t, t1, vs, tmps, h, hv, hf => hv.elim
  | [], .ag _, t, t1, vs, tmps, h, hv, hf => hv.elim
  | d :: ps, .ag _, t, t1, vs, tmps, h, hv, hf => hv.elim
  | [], .sn, t, t1, vs, tmps, h, hv, hf => hv.elim
  | d :: ps, .sn, t, t1, vs, tmps, h, hv, hf => hv.elim
  | [], .sl _ _ _ _, t, t1, vs, tmps, h, hv, hf => hv.elim
  | d :: ps, .sl _ _ _ _, t, t1, vs, tmps, h, hv, hf => hv.elim
  | [], .sg _ _ _ _, t, t1, vs, tmps, h, hv, hf => hv.elim
  | d :: ps, .sg _ _ _ _, t, t1, vs, tmps, h, hv, hf => hv.elim
  | [], .se _, t, t1, vs, tmps, h, hv, hf => hv.elim
  | d :: ps, .se _, t, t1, vs, tmps, h, hv, hf => hv.elim
  | [], .yd _, t, t1, vs, tmps, h, hv, hf => hv.elim
  | d :: ps, .yd _, t, t1, vs, tmps, h, hv, hf => hv.elim
  | [], .pn, t, t1, vs, tmps, h, hv, hf => hv.elim
  | d :: ps, .pn, t, t1, vs, tmps, h, hv, hf => hv.elim
  | [], .p _ _, t, t1, vs, tmps, h, hv, hf => hv.elim
  | d :: ps, .p _ _, t, t1, vs, tmps, h, hv, hf => hv.elim
  | [], .s _, t, t1, vs, tmps, h, hv, hf => hv.elim
  | d :: ps, .s _, t, t1, vs, tmps, h, hv, hf => hv.elim
  | [], .b _, t, t1, vs, tmps, h, hv, hf => hv.elim
  | d :: ps, .b _, t, t1, vs, tmps, h, hv, hf => hv.elim
  | [], .i _ _, t, t1, vs, tmps, h, hv, hf => hv.elim
  | d :: ps, .i _ _, t, t1, vs, tmps, h, hv, hf => hv.elim
theorem roundM_ok {ps : Array Tmp} {as' bd : Code} {mA mB : CM} (hA : CMOk P G dt n lo as' mA) (hB : CMOk P G dt n lo bd mB) (hdf : noDf as' = true ∧ noDf bd = true) {hd : Hd} (hok : HdOk P G hd) {q : Id} {t : Tr} {args : AV} {hp : HP} {k : KV} {x : AV × HP}
    (hr : roundM dt n lo ps.toList mA mB hd q t args hp k = some x) : ∃ v hp', k v hp' = some x ∧ ∀ φ (B : Bse (⟨q, dt, n, lo, t, ps, as', bd⟩ :: hd.y.s)) w (ars : Array Value) g, Glo G φ → WH φ B hp w → VL φ args ars.toList → φ q = some g → RoundOk P g.1 ars w (Aft φ B hp w v hp') := by
  unfold roundM at hr
  obtain ⟨st, pd0, hm0, hr⟩ := onLoop_some hr
  cases st with
  | busy => cases hr
  | done => cases hr
  | exhausted => cases hr
  | ready =>
  simp only at hr
  cases hps : setPs dt n lo ps.toList args t with
  | none => simp only [hps] at hr; cases hr
  | some t1 =>
  simp only [hps] at hr
  obtain ⟨x1, t2, hp2, hr1, hAw⟩ := hA hd hok t1 hp _ x hr
  cases x1 with
  | exit i => cases hr1
  | ret => cases hr1
  | pan v => cases hr1
  | normal =>
  simp only at hr1
  obtain ⟨st2, pd2, hm2, hr1⟩ := onLoop_some hr1
  cases st2 with
  | busy => cases hr1
  | done => cases hr1
  | exhausted => cases hr1
  | ready =>
  simp only at hr1
  obtain ⟨x2, t3, hp3, hr2, hBw⟩ := hB hd hok t2 _ _ x hr1
  obtain ⟨st3, pd3, hm3, hr2⟩ := onLoop_some hr2
  have all : ∀ (v : AV) (st' : LoopState) (pend' : Option Code) (jump : Option Code) , (∀ ψ x', ExR ψ x2 x' → ∀ (l : Nat) (R : Ending → World → Prop) (a : Act) (w : World), (∃ v w', (Instr.endRound l jump).run P w = .ok v w' ∧ R (.returned v) w') → roundPost P l R x' a w) →
      (pend' = jump ∧ st' = if jump.isNone then .ready else .done) → (∀ ψ, VR ψ v (.bool jump.isNone)) →
      ∀ φ (B : Bse (⟨q, dt, n, lo, t, ps, as', bd⟩ :: hd.y.s)) w (ars : Array Value) g, Glo G φ → WH φ B hp w → VL φ args ars.toList → φ q = some g → RoundOk P g.1 ars w (Aft φ B hp w v (.mk (hp3.m.set q (.loop st' pend')) hp3.nx)) := by
    intro v st' pend' jump hpost hst hv φ B w ars g g1 hw hargs hg
    obtain ⟨cc, cs, hcs, hsite, hw0⟩ := WR.tail hw
    obtain ⟨K0, hpl⟩ := hsite.pl
    have hgl : g = (cc.l, K0) := by rw [show φ q = some (cc.l, K0) from hpl] at hg; cases hg; rfl
    subst hgl
    obtain ⟨rec, hrec, q1, q2, q3, q4⟩ := hsite.rc
    have hf0 : FR φ dt n lo t { tmps := rec.tmps, defers := [] } := by
      rw [q1]
      refine ⟨hsite.sz, hsite.cap, fun d hd' => ?_, fun d hd' hl => ?_, ?_⟩
      · rw [getT_get]; exact hsite.at' d hd'
      · rw [getT_get]; exact hsite.lo d hd' hl
      · rw [getT_get]
        have hdfs : (t.get (path dt n)).getD .u = .u := hsite.df
        rw [hdfs]
        rfl
    obtain ⟨hlen, hf1⟩ := setPs_ok hps hargs hf0
    have q2' : rec.params = ps := q2
    have hsize : ars.size = rec.params.size := by rw [q2', ← Array.length_toList, ← Array.length_toList]; exact hlen
    refine ⟨rec.fn, _, rec.assign, rec.body, run_yield hrec hsize, ?_⟩
    have q3' : rec.assign = as' := q3
    have q4' : rec.body = bd := q4
    rw [q3', q4']
    have htm : (rec.params.zip ars).foldl (fun tmps (t, a) => tmps.setIfInBounds t a) rec.tmps = (ps.toList.zip ars.toList).foldl (fun tmps (t, a) => tmps.setIfInBounds t a) rec.tmps := by
      rw [q2', ← Array.foldl_toList, Array.toList_zip]
    rw [htm]
    have back : ∀ {ψ : Id → Option Plc} {hp' : HP} {w' : World}, StH φ hp w ψ hp' w' → WH ψ (⟨B.b, cs⟩ : Bse hd.y.s) hp' w' → WH ψ B hp' w' := by
      intro ψ hp' w' hs hw'
      have h1 : WR ψ (⟨B.b, cc :: cs⟩ : Bse (⟨q, dt, n, lo, t, ps, as', bd⟩ :: hd.y.s)) hp'.m hp'.nx w' := WR.grow hw' (hsite.mono hs.more hs.lk)
      have h2 : B = ⟨B.b, cc :: cs⟩ := by rw [← hcs]
      rw [h2]
      exact h1
    refine roundIn_of_wpIn trivial ?_
    refine hAw φ ⟨B.b, cs⟩ _ w g1 hf1 hw0 _ (fun ψ a1 w1 x1' f0 f1 f2 f3 => ?_) (some cc.l) (.inr hdf.1)
    have e0 : x1' = .normal := f0
    subst e0
    have hg1 : ψ q = some (cc.l, K0) := f2.more _ _ hg
    obtain ⟨rec1, r1, r2, r3, r4⟩ := WR.loopPut f3 hm2 hg1
    obtain ⟨hw2, hs2⟩ := r4 .busy pd2
    refine ⟨_, run_beginRound r1 r2, ?_⟩
    have hw2' : WR ψ (⟨B.b, cs⟩ : Bse hd.y.s) (hp2.m.set q (.loop .busy pd2)) hp2.nx (w1.putObj cc.l (.loop { rec1 with state := .busy })) := by
      have e : ({ rec1 with state := LoopState.busy } : Loop) = { rec1 with state := .busy, pending := pd2 } := by rw [← r3]
      rw [e]
      exact hw2
    have hs2' : Step ψ hp2.m hp2.nx w1 ψ (hp2.m.set q (.loop .busy pd2)) hp2.nx (w1.putObj cc.l (.loop { rec1 with state := .busy })) := by
      have e : ({ rec1 with state := LoopState.busy } : Loop) = { rec1 with state := .busy, pending := pd2 } := by rw [← r3]
      rw [e]
      exact hs2
    refine hBw ψ ⟨B.b, cs⟩ a1 _ (g1.more f2.more) f1 hw2' _ (fun χ a3 w3 x3' e0 e1 e2 e3 => ?_) (some cc.l) (.inr hdf.2)
    have hg3 : χ q = some (cc.l, K0) := e2.more _ _ hg1
    obtain ⟨rec3, s1, s2, s3, s4⟩ := WR.loopPut e3 hm3 hg3
    obtain ⟨hw4, hs4⟩ := s4 st' pend'
    refine hpost χ x3' e0 cc.l _ a3 w3 ⟨_, _, run_endRound jump s1, .bool jump.isNone, rfl, χ, hv χ, ?_, ?_⟩
    · have hs : StH φ hp w χ (.mk (hp3.m.set q (.loop st' pend')) hp3.nx) (w3.putObj cc.l (.loop { rec3 with state := st', pending := pend' })) := (f2.trans (hs2'.trans e2)).trans hs4
      rw [hst.1, hst.2] at hs
      rw [hst.1, hst.2]
      exact hs
    · have hs : StH φ hp w χ (.mk (hp3.m.set q (.loop st' pend')) hp3.nx) (w3.putObj cc.l (.loop { rec3 with state := st', pending := pend' })) := (f2.trans (hs2'.trans e2)).trans hs4
      have hw5 := back hs hw4
      rw [hst.1, hst.2] at hw5
      rw [hst.1, hst.2]
      exact hw5
  cases x2 with
  | normal => exact ⟨_, _, hr2, all _ _ _ none (fun ψ x' f l R a w h => by have : x' = .normal := f; subst this; exact h) ⟨rfl, rfl⟩ (fun _ => rfl)⟩
  | ret => exact ⟨_, _, hr2, all _ _ _ (some .ret) (fun ψ x' f l R a w h => by have : x' = .ret := f; subst this; exact h) ⟨rfl, rfl⟩ (fun _ => rfl)⟩
  | exit i => exact ⟨_, _, hr2, all _ _ _ (some (.exit i)) (fun ψ x' f l R a w h => by have : x' = .exit i := f; subst this; exact h) ⟨rfl, rfl⟩ (fun _ => rfl)⟩
  | pan v => cases hr2
theorem jumpM_some {pend : Option Code} {k : Ex → R} {x : AV × HP} (h : jumpM pend k = some x) : (pend = none ∧ k .normal = some x) ∨ (pend = some .ret ∧ k .ret = some x) ∨ ∃ i, pend = some (.exit i) ∧ k (.exit i) = some x := by
  unfold jumpM at h
  split at h
  · exact .inl ⟨rfl, h⟩
  · exact .inr (.inl ⟨rfl, h⟩)
  · exact .inr (.inr ⟨_, rfl, h⟩)
  · cases h
theorem rangeM_ok {g : Operand} {ps : Array Tmp} {as' bd : Code} {mA mB : CM} (hA : CMOk P G dt n lo as' mA) (hB : CMOk P G dt n lo bd mB) (hdf : noDf as' = true ∧ noDf bd = true) :
    CMOk P G dt n lo (.rangeFunc g ps as' bd) (rangeM dt n lo ps as' bd (opd G dt n [] g) mA mB) := by
  intro hd hok t hp k r hr
  obtain ⟨f, first, cap, hf, h1⟩ := AV.on_fn_some (show ((opd G dt n [] g).run [] t).on_fn _ = some r from hr)
  split at h1
  rotate_left
  · cases h1
  rename_i fid
  split at h1
  rotate_left
  · cases h1
  rename_i he
  split at h1
  rename_i m nx
  split at h1
  rotate_left
  · cases h1
  rename_i hl1 hl2
  have hent := hok.2.2 fid he
  generalize hsd : (⟨inc nx, dt, n, lo, t.set (path dt n) .u, ps, as', bd⟩ : Site) = site at h1
  generalize hyd : (⟨site :: hd.y.s, true, fun q args hp k => match sameId q (inc nx) with
      | true => roundM dt n lo ps.toList mA mB hd (inc nx) (t.set (path dt n) .u) args hp k
      | false => hd.y.f q args hp k⟩ : Ys) = y at h1
  have hys : y.s = site :: hd.y.s := by rw [← hyd]
  have hy : YOk P G y := by
    subst hyd
    intro q args hp k res h
    have h' : (match sameId q (inc nx) with
      | true => roundM dt n lo ps.toList mA mB hd (inc nx) (t.set (path dt n) .u) args hp k
      | false => hd.y.f q args hp k) = some res := h
    split at h'
    · rename_i hs
      have := sameId_eq hs
      subst this hsd
      exact roundM_ok hA hB hdf hok h'
    · obtain ⟨v, hp', h1, h2⟩ := hok.1 q args hp k res h'
      refine ⟨v, hp', h1, fun φ B w ars g g1 hw hargs hg => ?_⟩
      obtain ⟨cc, cs, hcs, hsite, hw0⟩ := WR.tail hw
      obtain ⟨f, tmps, as, bd, e1, e2⟩ := h2 φ ⟨B.b, cs⟩ w ars g g1 hw0 hargs hg
      refine ⟨f, tmps, as, bd, e1, RoundIn.mono e2 fun e w' ⟨v', e3, ψ, hv, hs, hw'⟩ => ⟨v', e3, ψ, hv, hs, ?_⟩⟩
      have h3 : WR ψ (⟨B.b, cc :: cs⟩ : Bse (site :: hd.y.s)) hp'.m hp'.nx w' := WR.grow hw' (hsite.mono hs.more hs.lk)
      have h4 : B = ⟨B.b, cc :: cs⟩ := by rw [← hcs]
      rw [h4]
      exact h3
  rcases (hok.2.1 y hy).1 fid _ _ _ _ r h1 with ⟨v, hp2, h2, h3⟩ | ⟨v, hp2, h2, h3⟩
  rotate_left
  · cases h2
  obtain ⟨st, pd, hm2, h4⟩ := onLoop_some h2
  have key : st ≠ .busy → ∀ (x : Ex) (X : Exit), (∀ ψ, ExR ψ x X) → ((pd = none ∧ X = .normal) ∨ ∃ c, pd = some c ∧ ∀ (Q : Exit → Act → World → Prop) a w, Q X a w → c.wpIn (Fw none) 0 P Q a w) →
      AfterC P G dt n lo hd t (.mk m nx) x (t.set (path dt n) (.cons (.mp nx) (getT (path dt n) t))) (.mk (hp2.m.set (inc nx) (.loop .exhausted pd)) hp2.nx) fun Q a w => ∀ ro, ro = none ∨ noDf (.rangeFunc g ps as' bd) = true → (Code.rangeFunc g ps as' bd).wpIn (Fw ro) 0 P Q a w := by
    intro hst x X hX hj φ B a w g1 g2 g3 Q hQ ro hro
    have hro' : ro = none := hro.resolve_right (by simp [noDf])
    subst hro'
    have hfv := opd_ok (lo := lo) g1 g2 (EnvR.nil φ [] a.tmps) g
    rw [hf] at hfv
    obtain ⟨us, ys, e1, v1, v2⟩ := hfv
    have e1' : a.eval g = .func (.func fid) us ys := e1
    have v1' : VL φ first us.toList := v1
    have v2' : VL φ cap ys.toList := v2
    refine wpIn_rangeFunc fun fn _ => ?_
    generalize hrec0 : ({ state := .ready, pending := none, fn, tmps := a.tmps, params := ps, assign := as', body := bd, defers := w.heap.size } : Loop) = rec0
    have g3' : WR φ B m nx w := g3
    obtain ⟨s1, p1⟩ := WR.new g3' hl1 (x := .dfd true) (o := .deferred (some [])) (K := 0) rfl (.alloc _ _)
    obtain ⟨s2, p2⟩ := WR.new s1 hl2 (x := .loop .ready none) (o := .loop rec0) (K := 0) ⟨rec0, rfl, by rw [← hrec0], by rw [← hrec0]⟩ (.alloc _ _)
    have hsz1 : (w.alloc (.deferred (some []))).heap.size = w.heap.size + 1 := by simp
    rw [hsz1] at s2 p2
    generalize hφ' : ext (ext φ nx (w.heap.size, 0)) (inc nx) (w.heap.size + 1, 0) = φ' at s2 p2
    generalize hw1 : (w.alloc (.deferred (some []))).alloc (.loop rec0) = w1 at s2 p2
    have hgr : φ' (inc nx) = some (w.heap.size + 1, 0) := by rw [← hφ']; exact ext_same _ _ _
    have hgd : φ' nx = some (w.heap.size, 0) := p2.more _ _ (ext_same _ _ _)
    have hstep := p1.trans p2
    have hsite : SiteR φ' w1 site ⟨w.heap.size + 1, a.tmps⟩ := by
      have ne : ∀ k, k < n → path dt k ≠ path dt n := fun k hk e => Nat.ne_of_lt hk (path_inj dt k n (Nat.lt_trans hk g2.cap) g2.cap e)
      have old : ∀ d, d < n → ((t.set (path dt n) .u).get (path dt d)).getD .u = getT (path dt d) t := fun d hd' => by
        rw [T4.get_set_other _ _ _ _ (by rw [path_len, path_len]) (ne d hd'), ← getT_get]
      subst hsd
      refine ⟨⟨0, hgr⟩, ⟨rec0, ?_, by rw [← hrec0], by rw [← hrec0], by rw [← hrec0], by rw [← hrec0]⟩, g2.sz, g2.cap, fun d hd' => ?_, fun d hd' hl => ?_, ?_⟩
      · rw [← hw1]
        have := World.alloc_heap_new (w.alloc (.deferred (some []))) (.loop rec0)
        rwa [hsz1] at this
      · show VR φ' (((t.set (path dt n) .u).get (path dt d)).getD .u) (a.tmps.getD d undef)
        rw [old d hd']
        exact (g2.at' d hd').more hstep.more
      · show ((t.set (path dt n) .u).get (path dt d)).getD .u = .u
        rw [old d hd']
        exact g2.lo d hd' hl
      · show ((t.set (path dt n) .u).get (path dt n)).getD .u = .u
        rw [T4.get_set_same]
        rfl
    have hargs : VL φ' (first.app (.cons (.yd (inc nx)) cap)) ((us ++ (#[Value.func (.yield (w.heap.size + 1)) #[] #[]] : Array Value)) ++ ys).toList := by
      rw [Array.toList_append, Array.toList_append, List.append_assoc]
      exact VL.app (v1'.more hstep.more) ⟨_, _, rfl, ⟨_, hgr, rfl⟩, v2'.more hstep.more⟩
    have hcall := h3 φ' (hys ▸ (⟨B.b, ⟨w.heap.size + 1, a.tmps⟩ :: B.cs⟩ : Bse (site :: hd.y.s))) w1 _ (g1.more hstep.more) (by
      subst hyd
      exact WR.grow s2 hsite) hargs
    refine ⟨w.heap.size + 1, [{ target := .collected w.heap.size, args := #[] }], w1, { target := .fn (.func fid) ys, args := us ++ (#[Value.func (.yield (w.heap.size + 1)) #[] #[]] : Array Value) }, w1, fid, (us ++ (#[Value.func (.yield (w.heap.size + 1)) #[] #[]] : Array Value)) ++ ys, w1, ?_, ?_, fun _ _ => trivial, ?_, (fun hh => by cases hh), ?_⟩
    · rw [← hw1, ← hrec0]; exact run_enterLoop_outer fn a.tmps ps as' bd
    · simp only [rangeCall, resolve, e1', Deferred.ofValue, Sem.run_bind, Sem.run_pure, Result.andThen_ok]
      rw [show (#[Operand.const (Value.func (.yield (w.heap.size + 1)) #[] #[])] : Array Operand).map a.eval = #[Value.func (.yield (w.heap.size + 1)) #[] #[]] from by simp [Act.eval]]
    · exact hent _ _
    · have hcalls : Calls P fid ((us ++ (#[Value.func (.yield (w.heap.size + 1)) #[] #[]] : Array Value)) ++ ys) w1 fun e w' => ∃ v', e = .returned v' ∧ ∃ ψ, StH φ' (.mk ((m.set nx (.dfd true)).set (inc nx) (.loop .ready none)) (inc (inc nx))) w1 ψ hp2 w' ∧ WH ψ B hp2 w' := by
        rcases hcall with ⟨_, c2⟩ | ⟨v', w', c1, _⟩
        · refine c2.mono fun e w' ⟨v', e2, ψ, hv, hs, hw'⟩ => ⟨v', e2, ψ, hs, ?_⟩
          subst hyd
          obtain ⟨cc, cs, hcs, _, hw0⟩ := WR.tail hw'
          have hcs' : (⟨w.heap.size + 1, a.tmps⟩ : Conc) :: B.cs = cc :: cs := hcs
          have hcs2 : B.cs = cs := (List.cons.inj hcs').2
          have hB : B = ⟨B.b, cs⟩ := by rw [← hcs2]
          rw [hB]
          exact hw0
        · rw [hent _ _] at c1; cases c1
      refine callsIn_of (hcalls.mono fun e w' ⟨v', e2, ψ, hs, hw'⟩ => ?_)
      subst e2
      have hgr' : ψ (inc nx) = some (w.heap.size + 1, 0) := hs.more _ _ hgr
      obtain ⟨rec, r1, r2, r3, r4⟩ := WR.loopPut hw' hm2 hgr'
      obtain ⟨hw4, hs4⟩ := r4 .exhausted pd
      have hend := run_endLoop (P := P) r1 (by rw [r2]; exact hst)
      refine ⟨rec.pending, _, hend, ?_⟩
      rw [r3]
      have hq := hQ ψ _ _ X (hX ψ) (FR.mark (g2.more (hstep.more.trans hs.more)) (hs.more _ _ hgd)) ((hstep.trans hs).trans hs4) hw4
      rcases hj with ⟨e6, e7⟩ | ⟨c, e6, hc⟩
      · rw [e7] at hq
        rw [e6] at hq ⊢
        exact hq
      · rw [e6] at hq ⊢
        exact hc Q _ _ hq
  have fin : st ≠ .busy → jumpM pd (fun x => k x (t.set (path dt n) (.cons (.mp nx) (getT (path dt n) t))) (.mk (hp2.m.set (inc nx) (.loop .exhausted pd)) hp2.nx)) = some r → ∃ x t' hp', k x t' hp' = some r ∧ AfterC P G dt n lo hd t (.mk m nx) x t' hp' fun Q a w => ∀ ro, ro = none ∨ noDf (.rangeFunc g ps as' bd) = true → (Code.rangeFunc g ps as' bd).wpIn (Fw ro) 0 P Q a w := by
    intro hst h5
    rcases jumpM_some h5 with ⟨e, h6⟩ | ⟨e, h6⟩ | ⟨i, e, h6⟩
    · exact ⟨_, _, _, h6, key hst .normal .normal (fun _ => rfl) (.inl ⟨e, rfl⟩)⟩
    · exact ⟨_, _, _, h6, key hst .ret .ret (fun _ => rfl) (.inr ⟨_, e, fun Q a w hq => wpIn_ret hq⟩)⟩
    · exact ⟨_, _, _, h6, key hst (.exit i) (.exit i) (fun _ => rfl) (.inr ⟨_, e, fun Q a w hq => wpIn_exit hq⟩)⟩
  cases st with
  | busy => cases h4
  | ready => exact fin nofun h4
  | done => exact fin nofun h4
  | exhausted => exact fin nofun h4
theorem codeM_ok (hop : ∀ ds o q, opM ds o = some q → OmOk P G dt n ds o q) (hrg : ∀ id ops m, regM ops = some m → RgOk P G dt n lo id ops m) : ∀ c : Code, CMOk P G dt n lo c (codeM G dt n lo opM regM fuel c) := by
  intro c
  induction c with
  | skip => exact fun hd hok t hp k r hr => ⟨.normal, t, hp, hr, fun φ B a w g1 g2 g3 Q hQ ro hro => wpIn_skip (hQ φ a w _ rfl g2 Step.refl g3)⟩
  | label l => exact fun hd hok t hp k r hr => ⟨.normal, t, hp, hr, fun φ B a w g1 g2 g3 Q hQ ro hro => wpIn_label (hQ φ a w _ rfl g2 Step.refl g3)⟩
  | region id ops draw =>
    intro hd hok t hp k r hr
    cases draw with
    | false =>
      obtain ⟨x, t', hp', h1, h2⟩ := opsM_ok hop ops hok (show (opsM G dt n lo opM ops ops.toList []).run hd [] t hp k = some r from hr)
      exact ⟨x, t', hp', h1, fun φ B a w g1 g2 g3 Q hQ ro hro => wpIn_region (h2 φ B a w g1 g2 g3 Q hQ ro hro)⟩
    | true =>
      unfold codeM at hr
      cases hm : regM ops with
      | none => simp only [hm] at hr; cases hr
      | some m =>
        simp only [hm] at hr
        obtain ⟨x, t', hp', h1, h2⟩ := hrg id ops m hm hd hok t hp _ r hr
        exact ⟨x, t', hp', h1, fun φ B a w g1 g2 g3 Q hQ ro hro => h2 φ B a w g1 g2 g3 Q hQ ro hro⟩
  | seq a b iha ihb =>
    intro hd hok t hp k r hr
    obtain ⟨x1, t1, hp1, h1, h2⟩ := iha hd hok t hp _ r hr
    have sp : ∀ {ro : Option Nat}, ro = none ∨ noDf (.seq a b) = true → (ro = none ∨ noDf a = true) ∧ (ro = none ∨ noDf b = true) := fun h => by
      rcases h with h | h
      · exact ⟨.inl h, .inl h⟩
      · simp only [noDf, Bool.and_eq_true] at h; exact ⟨.inr h.1, .inr h.2⟩
    have out : ∀ x1', x1' ≠ .normal → x1 = x1' → k x1' t1 hp1 = some r → ∃ x t' hp', k x t' hp' = some r ∧
        AfterC P G dt n lo hd t hp x t' hp' fun Q a' w => ∀ ro, ro = none ∨ noDf (.seq a b) = true → (Code.seq a b).wpIn (Fw ro) 0 P Q a' w := by
      intro x1' hne e hk
      subst e
      exact ⟨x1, t1, hp1, hk, fun φ B a w g1 g2 g3 Q hQ ro hro => wpIn_seq (h2 φ B a w g1 g2 g3 _ (fun ψ a' w' x' f0 f1 f2 f3 => then_of (by rcases f0.to with ⟨e, _⟩ | ⟨_, e⟩; exact absurd e hne; exact e) (hQ ψ a' w' x' f0 f1 f2 f3)) ro (sp hro).1)⟩
    cases x1 with
    | normal =>
      obtain ⟨x, t', hp', h3, h4⟩ := ihb hd hok t1 hp1 k r h1
      refine ⟨x, t', hp', h3, fun φ B a w g1 g2 g3 Q hQ ro hro => wpIn_seq (h2 φ B a w g1 g2 g3 _ (fun ψ a' w' x' f0 f1 f2 f3 => ?_) ro (sp hro).1)⟩
      have : x' = .normal := f0
      subst this
      exact h4 ψ B a' w' (g1.more f2.more) f1 f3 Q (fun χ a'' w'' x'' e0 e1 e2 e3 => hQ χ a'' w'' x'' e0 e1 (f2.trans e2) e3) ro (sp hro).2
    | exit i => exact out (.exit i) nofun rfl h1
    | ret => exact out .ret nofun rfl h1
    | pan v => exact out (.pan v) nofun rfl h1
  | cond c a b iha ihb =>
    intro hd hok t hp k r hr
    obtain ⟨x, hx, h1⟩ := AV.on_b_some hr
    have sp : ∀ {ro : Option Nat}, ro = none ∨ noDf (.cond c a b) = true → (ro = none ∨ noDf a = true) ∧ (ro = none ∨ noDf b = true) := fun h => by
      rcases h with h | h
      · exact ⟨.inl h, .inl h⟩
      · simp only [noDf, Bool.and_eq_true] at h; exact ⟨.inr h.1, .inr h.2⟩
    have hc : ∀ φ (a : Act), Glo G φ → FR φ dt n lo t a → a.eval c = .bool x := fun φ a g1 g2 => by
      have := opd_ok (lo := lo) g1 g2 (EnvR.nil φ [] _) c
      rw [hx] at this
      exact this
    cases x with
    | true =>
      obtain ⟨y, t', hp', h3, h4⟩ := iha hd hok t hp k r h1
      exact ⟨y, t', hp', h3, fun φ B a w g1 g2 g3 Q hQ ro hro => wpIn_cond_true (hc φ a g1 g2) (h4 φ B a w g1 g2 g3 Q hQ ro (sp hro).1)⟩
    | false =>
      obtain ⟨y, t', hp', h3, h4⟩ := ihb hd hok t hp k r h1
      exact ⟨y, t', hp', h3, fun φ B a w g1 g2 g3 Q hQ ro hro => wpIn_cond_false (hc φ a g1 g2) (h4 φ B a w g1 g2 g3 Q hQ ro (sp hro).2)⟩
  | block i a iha =>
    intro hd hok t hp k r hr
    obtain ⟨x1, t1, hp1, h1, h2⟩ := iha hd hok t hp _ r hr
    cases x1 with
    | normal => exact ⟨.normal, t1, hp1, h1, fun φ B a w g1 g2 g3 Q hQ ro hro => wpIn_block (h2 φ B a w g1 g2 g3 _ (fun ψ a' w' x' f0 f1 f2 f3 => by have : x' = .normal := f0; subst this; exact hQ ψ a' w' _ rfl f1 f2 f3) ro hro)⟩
    | exit j =>
      by_cases hj : j = i
      · subst hj
        have h1' : k .normal t1 hp1 = some r := by simpa using h1
        exact ⟨.normal, t1, hp1, h1', fun φ B a w g1 g2 g3 Q hQ ro hro => wpIn_block (h2 φ B a w g1 g2 g3 _ (fun ψ a' w' x' f0 f1 f2 f3 => by
          have : x' = .exit j := f0
          subst this
          show (if j = j then Q .normal a' w' else Q (.exit j) a' w')
          rw [if_pos rfl]
          exact hQ ψ a' w' _ rfl f1 f2 f3) ro hro)⟩
      · have hb : Nat.beq j i = false := by rw [← Bool.not_eq_true]; exact fun e => hj (Nat.eq_of_beq_eq_true e)
        have h1' : k (.exit j) t1 hp1 = some r := by
          have : (Bool.rec (k (.exit j) t1 hp1) (k .normal t1 hp1) (Nat.beq j i) : R) = some r := h1
          rw [hb] at this
          exact this
        exact ⟨.exit j, t1, hp1, h1', fun φ B a w g1 g2 g3 Q hQ ro hro => wpIn_block (h2 φ B a w g1 g2 g3 _ (fun ψ a' w' x' f0 f1 f2 f3 => by
          have : x' = .exit j := f0
          subst this
          show (if j = i then Q .normal a' w' else Q (.exit j) a' w')
          rw [if_neg hj]
          exact hQ ψ a' w' _ rfl f1 f2 f3) ro hro)⟩
    | ret => exact ⟨.ret, t1, hp1, h1, fun φ B a w g1 g2 g3 Q hQ ro hro => wpIn_block (h2 φ B a w g1 g2 g3 _ (fun ψ a' w' x' f0 f1 f2 f3 => by have : x' = .ret := f0; subst this; exact hQ ψ a' w' _ rfl f1 f2 f3) ro hro)⟩
    | pan v => exact ⟨.pan v, t1, hp1, h1, fun φ B a w g1 g2 g3 Q hQ ro hro => wpIn_block (h2 φ B a w g1 g2 g3 _ (fun ψ a' w' x' f0 f1 f2 f3 => by obtain ⟨v', e, f0'⟩ := f0; subst e; exact hQ ψ a' w' _ ⟨v', rfl, f0'⟩ f1 f2 f3) ro hro)⟩
  | loop a iha =>
    intro hd hok t hp k r hr
    obtain ⟨x, t', hp', h1, h2⟩ := loop_ok iha hd hok fuel t hp k r hr
    exact ⟨x, t', hp', h1, fun φ B a w g1 g2 g3 Q hQ ro hro => wp_of_lw (h2 φ B a w g1 g2 g3 Q hQ ro hro)⟩
  | scope a iha =>
    intro hd hok t hp k r hr
    obtain ⟨x, t', hp', h1, h2⟩ := iha hd hok t hp k r hr
    exact ⟨x, t', hp', h1, fun φ B a w g1 g2 g3 Q hQ ro hro => wpIn_scope_straight (h2 φ B a w g1 g2 g3 _ (fun ψ a' w' x' f0 f1 f2 f3 => by
      have := hQ ψ a' w' x' f0 f1 f2 f3
      cases x with
      | normal => have e : x' = .normal := f0; subst e; exact this
      | exit i => have e : x' = .exit i := f0; subst e; exact this
      | ret => have e : x' = .ret := f0; subst e; exact this
      | pan v => obtain ⟨v', e, _⟩ := f0; subst e; exact this) ro hro)⟩
  | exit i => exact fun hd hok t hp k r hr => ⟨.exit i, t, hp, hr, fun φ B a w g1 g2 g3 Q hQ ro hro => wpIn_exit (hQ φ a w _ rfl g2 Step.refl g3)⟩
  | ret => exact fun hd hok t hp k r hr => ⟨.ret, t, hp, hr, fun φ B a w g1 g2 g3 Q hQ ro hro => wpIn_ret (hQ φ a w _ rfl g2 Step.refl g3)⟩
  | rangeFunc f ps ars b iha ihb =>
    intro hd hok t hp k r hr
    unfold codeM at hr
    cases hdf : noDf ars && noDf b with
    | false => simp only [hdf] at hr; cases hr
    | true =>
      simp only [hdf] at hr
      simp only [Bool.and_eq_true] at hdf
      exact rangeM_ok iha ihb hdf hd hok t hp k r hr
  | goto l => exact fun hd hok t hp k r hr => by cases hr
  | refuse s => exact fun hd hok t hp k r hr => by cases hr
end
end Go.Proofs.YtobaebpmdimljaaGreatDoor.Clo
end
section
namespace Go.Proofs.YtobaebpmdimljaaGreatDoor.Clo
open Go.RowKit
set_option linter.unusedVariables false
set_option linter.unusedSimpArgs false
section
variable {P : Program} {G dt n : Nat} {ds : List (Option Nat)} {o : Oper}
theorem move_ok {x : Operand} (ho : o.op = .move x ∨ o.op = .assign x) : PureOk P G dt n ds o (fun e t hp k => k ((opd G dt n ds x).run e t) hp) :=
  .pure fun e t hp k r hr => ⟨_, hr, fun φ a w hx => ⟨a.eval x, by unfold execOp; rcases ho with ho | ho <;> rw [ho] <;> rfl, hx x (by rcases ho with ho | ho <;> (rw [ho]; simp [Op.operands, Call.operands]))⟩⟩
theorem pick_ok {c x y : Operand} (ho : o.op = .pick c x y) : PureOk P G dt n ds o (fun e t hp k => ((opd G dt n ds c).run e t).on_b fun b => Bool.rec (k ((opd G dt n ds y).run e t) hp) (k ((opd G dt n ds x).run e t) hp) b) :=
  .pure fun e t hp k r hr => by
    obtain ⟨b, hb, h1⟩ := AV.on_b_some hr
    cases b with
    | true => exact ⟨_, h1, fun φ a w hx => ⟨a.eval x, by
        have hc : a.eval c = .bool true := by have := hx c (by rw [ho]; simp [Op.operands, Call.operands]); rw [hb] at this; exact this
        unfold execOp; rw [ho]; simp [hc, asBool], hx x (by rw [ho]; simp [Op.operands, Call.operands])⟩⟩
    | false => exact ⟨_, h1, fun φ a w hx => ⟨a.eval y, by
        have hc : a.eval c = .bool false := by have := hx c (by rw [ho]; simp [Op.operands, Call.operands]); rw [hb] at this; exact this
        unfold execOp; rw [ho]; simp [hc, asBool], hx y (by rw [ho]; simp [Op.operands, Call.operands])⟩⟩
def ltI : Int → Int → Bool
  | .ofNat a, .ofNat b => Nat.blt a b
  | .ofNat _, .negSucc _ => false
  | .negSucc _, .ofNat _ => true
  | .negSucc a, .negSucc b => Nat.blt b a
theorem ltI_eq (x y : Int) : ltI x y = decide (x < y) := by
  rw [Bool.eq_iff_iff, decide_eq_true_eq]
  cases x <;> cases y <;> simp only [ltI, Nat.blt_eq, Bool.false_eq_true, true_iff, false_iff, Int.ofNat_eq_natCast] <;> omega
def eqI : Int → Int → Bool
  | .ofNat a, .ofNat b => Nat.beq a b
  | .negSucc a, .negSucc b => Nat.beq a b
  | _, _ => false
theorem eqI_eq (x y : Int) : eqI x y = (x == y) := by
  rw [Bool.eq_iff_iff, beq_iff_eq]
  cases x <;> cases y <;> simp only [eqI, Nat.beq_eq, Bool.false_eq_true, false_iff, Int.ofNat_eq_natCast, Int.negSucc_inj] <;> omega
def topI : IntKind → Nat
  | .i8 => 127 | .i16 => 32767 | .i32 => 2147483647 | .i64 => 9223372036854775807
  | .u8 => 255 | .u16 => 65535 | .u32 => 4294967295 | .u64 => 18446744073709551615
def wrapF (k : IntKind) (x : Int) : Int := match x with
  | .ofNat m => match Nat.ble m (topI k) with
    | true => .ofNat m
    | false => k.wrap x
  | _ => k.wrap x
theorem wrapF_eq (k : IntKind) (x : Int) : wrapF k x = k.wrap x := by
  unfold wrapF
  split
  · rename_i m
    split
    · rename_i h
      have h' : m ≤ topI k := Nat.le_of_ble_eq_true h
      cases k <;> simp only [topI] at h' <;> simp [IntKind.wrap, IntKind.bits, IntKind.signed] <;> omega
    · rfl
  · rfl
def intBin (op : BinOp) (k : IntKind) (x y : Int) : Option AV := match op with
  | .add => some (.i k (wrapF k (Int.add x y)))
  | .sub => some (.i k (wrapF k (Int.sub x y)))
  | .mul => some (.i k (wrapF k (Int.mul x y)))
  | .quo => match eqI y 0 with | true => none | false => some (.i k (wrapF k (x.tdiv y)))
  | .rem => match eqI y 0 with | true => none | false => some (.i k (x.tmod y))
  | .and => some (.i k (k.wrap ((BitVec.ofInt k.bits x &&& BitVec.ofInt k.bits y).toNat)))
  | .or => some (.i k (k.wrap ((BitVec.ofInt k.bits x ||| BitVec.ofInt k.bits y).toNat)))
  | .xor => some (.i k (k.wrap ((BitVec.ofInt k.bits x ^^^ BitVec.ofInt k.bits y).toNat)))
  | .andNot => some (.i k (k.wrap ((BitVec.ofInt k.bits x &&& ~~~BitVec.ofInt k.bits y).toNat)))
  | .eql => some (.b (eqI x y))
  | .neq => some (.b (!eqI x y))
  | .lss => some (.b (ltI x y))
  | .leq => some (.b (!ltI y x))
  | .gtr => some (.b (ltI y x))
  | .geq => some (.b (!ltI x y))
  | _ => none
theorem intBin_ok {op : BinOp} {k : IntKind} {x y : Int} {v : AV} (h : intBin op k x y = some v) (φ : Id → Option Plc) (t : TypeId) (w : World) : ∃ v', (binOp op t (.int k x) (.int k y)).run P w = .ok v' w ∧ VR φ v v' := by
  have hle : ∀ a b : Int, (!ltI b a) = decide (a ≤ b) := fun a b => by rw [ltI_eq, Bool.eq_iff_iff]; simp
  cases op <;> simp only [intBin] at h <;> try (simp only [Option.some.injEq] at h; subst h)
  case quo =>
    split at h
    · cases h
    · rename_i hy
      simp only [Option.some.injEq] at h
      subst h
      have hy' : ¬ y = 0 := fun e => by subst e; simp [eqI] at hy
      exact ⟨.int k (k.wrap (x.tdiv y)), by simp [binOp, Op.intDiv, hy'], by rw [wrapF_eq]; rfl⟩
  case rem =>
    split at h
    · cases h
    · rename_i hy
      simp only [Option.some.injEq] at h
      subst h
      have hy' : ¬ y = 0 := fun e => by subst e; simp [eqI] at hy
      exact ⟨.int k (x.tmod y), by simp [binOp, Op.intDiv, hy'], rfl⟩
  case shl => cases h
  case shr => cases h
  case and => exact ⟨.int k (k.wrap ((BitVec.ofInt k.bits x &&& BitVec.ofInt k.bits y).toNat)), by cases k <;> rfl, rfl⟩
  case or => exact ⟨.int k (k.wrap ((BitVec.ofInt k.bits x ||| BitVec.ofInt k.bits y).toNat)), by cases k <;> rfl, rfl⟩
  case xor => exact ⟨.int k (k.wrap ((BitVec.ofInt k.bits x ^^^ BitVec.ofInt k.bits y).toNat)), by cases k <;> rfl, rfl⟩
  case andNot => exact ⟨.int k (k.wrap ((BitVec.ofInt k.bits x &&& ~~~BitVec.ofInt k.bits y).toNat)), by cases k <;> rfl, rfl⟩
  all_goals
    refine ⟨_, by simp [binOp, Op.intArith, Op.intBits, Op.intCmp]; rfl, ?_⟩
    first
      | (rw [wrapF_eq]; rfl)
      | rfl
      | (rw [eqI_eq]; rfl)
      | (rw [ltI_eq]; rfl)
      | (rw [hle]; rfl)
end
end Go.Proofs.YtobaebpmdimljaaGreatDoor.Clo
end
section
namespace Go.Proofs.YtobaebpmdimljaaGreatDoor.Clo
open Go.RowKit
set_option linter.unusedVariables false
set_option linter.unusedSimpArgs false
def B256 (l : List Nat) : Prop := ∀ x ∈ l, x < 256
theorem bytes_size (l : List Nat) : (bytesOf l).size = l.length := by
  show (l.map UInt8.ofNat).toArray.size = _
  simp
theorem bytes_toList (l : List Nat) : (bytesOf l).toList = l.map UInt8.ofNat := by
  rw [ByteArray.toList_eq]
  unfold bytesOf
  simp
theorem bytes_app (l m : List Nat) : bytesOf (l ++ m) = bytesOf l ++ bytesOf m := by
  apply ByteArray.ext
  apply Array.ext'
  simp [bytesOf]
theorem bytes_extract (l : List Nat) (i j : Nat) : (bytesOf l).extract i j = bytesOf ((l.drop i).take (j - i)) := by
  apply ByteArray.ext
  apply Array.ext'
  simp [bytesOf, List.map_drop, List.map_take]
theorem bytes_get (l : List Nat) (i : Nat) : (bytesOf l)[i]? = (l[i]?).map UInt8.ofNat := by
  by_cases h : i < l.length
  · rw [getElem?_pos _ _ (by rw [bytes_size]; exact h), List.getElem?_eq_getElem h]
    simp [bytesOf, ByteArray.getElem_eq_getElem_data]
  · rw [getElem?_neg _ _ (by rw [bytes_size]; exact h), List.getElem?_eq_none (by omega)]
    rfl
theorem ofNat_inj {x y : Nat} (hx : x < 256) (hy : y < 256) (h : UInt8.ofNat x = UInt8.ofNat y) : x = y := by
  have := congrArg UInt8.toNat h
  simpa [UInt8.toNat_ofNat', Nat.mod_eq_of_lt hx, Nat.mod_eq_of_lt hy] using this
noncomputable def eqL (a : List Nat) : List Nat → Bool :=
  List.rec (motive := fun _ => List Nat → Bool) (fun b => List.rec true (fun _ _ _ => false) b) (fun x _ ih b => List.rec false (fun y r _ => Bool.rec false (ih r) (Nat.beq x y)) b) a
theorem eqL_iff : ∀ (a b : List Nat), eqL a b = true ↔ a = b
  | [], [] => by simp [eqL]
  | [], y :: b => by simp [eqL]
  | x :: a, [] => by simp [eqL]
  | x :: a, y :: b => by
    show (Bool.rec false (eqL a b) (Nat.beq x y) : Bool) = true ↔ _
    cases h : Nat.beq x y with
    | true => have := Nat.eq_of_beq_eq_true h; subst this; simp [eqL_iff a b]
    | false =>
      have : x ≠ y := fun e => by subst e; rw [Nat.beq_refl] at h; cases h
      simp [this]
theorem eqL_bytes {a b : List Nat} (ha : B256 a) (hb : B256 b) : ((bytesOf a).toList == (bytesOf b).toList) = eqL a b := by
  rw [bytes_toList, bytes_toList, Bool.eq_iff_iff, beq_iff_eq, eqL_iff]
  constructor
  · intro h
    apply List.ext_getElem?
    intro i
    have hi := congrArg (·[i]?) h
    simp only [List.getElem?_map] at hi
    cases hx : a[i]? with
    | none => rw [hx] at hi; cases hy : b[i]? with
      | none => rfl
      | some y => rw [hy] at hi; cases hi
    | some x =>
      rw [hx] at hi
      cases hy : b[i]? with
      | none => rw [hy] at hi; cases hi
      | some y =>
        rw [hy] at hi
        simp only [Option.map_some, Option.some.injEq] at hi
        rw [ofNat_inj (ha x (List.mem_of_getElem? hx)) (hb y (List.mem_of_getElem? hy)) hi]
  · intro h; rw [h]
def lessL : List Nat → List Nat → Bool
  | _, [] => false
  | [], _ :: _ => true
  | a :: x, b :: y => match Nat.blt a b with
    | true => true
    | false => match Nat.beq a b with
      | true => lessL x y
      | false => false
theorem lessL_bytes : ∀ {a b : List Nat}, B256 a → B256 b → Op.bytesLess (bytesOf a).toList (bytesOf b).toList = lessL a b := by
  intro a b ha hb
  rw [bytes_toList, bytes_toList]
  induction a generalizing b with
  | nil => cases b <;> rfl
  | cons x a ih =>
    cases b with
    | nil => rfl
    | cons y b =>
      have hx := ha x (by simp)
      have hy := hb y (by simp)
      have h1 := ih (b := b) (fun z hz => ha z (by simp [hz])) (fun z hz => hb z (by simp [hz]))
      simp only [List.map_cons, Op.bytesLess, lessL, h1]
      have e1 : decide (UInt8.ofNat x < UInt8.ofNat y) = Nat.blt x y := by
        rw [Bool.eq_iff_iff, decide_eq_true_eq, Nat.blt_eq, UInt8.lt_iff_toNat_lt]
        simp [UInt8.toNat_ofNat', Nat.mod_eq_of_lt hx, Nat.mod_eq_of_lt hy]
      have e2 : (UInt8.ofNat x == UInt8.ofNat y) = Nat.beq x y := by
        rw [Bool.eq_iff_iff, beq_iff_eq, Nat.beq_eq]
        exact ⟨ofNat_inj hx hy, fun h => by rw [h]⟩
      rw [e1, e2]
      cases Nat.blt x y <;> cases Nat.beq x y <;> simp
noncomputable def strBin (op : BinOp) (l m : List Nat) : Option AV := match op with
  | .add => match Nat.ble (Nat.add l.length m.length) 1000000000 with
    | true => some (.s (l ++ m))
    | false => none
  | .eql => some (.b (eqL l m))
  | .neq => some (.b (!eqL l m))
  | .lss => some (.b (lessL l m))
  | .geq => some (.b (!lessL l m))
  | .gtr => some (.b (!(lessL l m || eqL l m)))
  | .leq => some (.b (lessL l m || eqL l m))
  | _ => none
theorem strBin_ok {P : Program} {op : BinOp} {l m : List Nat} {v : AV} (hl : B256 l) (hm : B256 m) (h : strBin op l m = some v) (φ : Id → Option Plc) (t : TypeId) (w : World) : ∃ v', (Go.binOp op t (.string (bytesOf l)) (.string (bytesOf m))).run P w = .ok v' w ∧ VR φ v v' := by
  cases op <;> simp only [strBin] at h <;> try (cases h; done)
  case add =>
    split at h
    · rename_i hb
      simp only [Option.some.injEq] at h
      subst h
      have hb' : l.length + m.length ≤ 1000000000 := Nat.le_of_ble_eq_true hb
      refine ⟨.string (bytesOf l ++ bytesOf m), ?_, by rw [bytes_app], fun x hx => ?_⟩
      · have : ¬ (((bytesOf l).size + (bytesOf m).size : Nat) : Int) > IntKind.i64.max := by
          rw [bytes_size, bytes_size]
          show ¬ (((l.length + m.length : Nat) : Int) > 9223372036854775807)
          omega
        simp only [Go.binOp, Op.stringOp]
        rw [if_neg this]
        rfl
      · rcases List.mem_append.1 hx with hx | hx
        · exact hl x hx
        · exact hm x hx
    · cases h
  all_goals
    simp only [Option.some.injEq] at h
    subst h
    refine ⟨_, by simp only [Go.binOp, Op.stringOp]; rfl, ?_⟩
    first
      | (rw [eqL_bytes hl hm]; rfl)
      | (rw [lessL_bytes hl hm]; rfl)
      | (rw [lessL_bytes hl hm, eqL_bytes hl hm]; rfl)
end Go.Proofs.YtobaebpmdimljaaGreatDoor.Clo
end
