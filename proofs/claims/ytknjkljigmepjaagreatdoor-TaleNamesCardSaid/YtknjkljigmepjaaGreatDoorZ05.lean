/- Part 5 of a proof laid in parts, one behind the other; no condition of its own. -/
import Derived.Test.YtknjkljigmepjaaGreatDoorZ04
import Derived.Laws.Strings
set_option linter.all false
section
namespace Go.Proofs.YtknjkljigmepjaaGreatDoor.Clo
open Go.RowKit
set_option linter.unusedVariables false
set_option linter.unusedSimpArgs false
set_option linter.constructorNameAsVariable false
variable [Tabs]
abbrev Fw (ro : Option Nat) : Fence := { Fence.wide with round := ro }
theorem noDefer_ok {o : Oper} (h : noDefer o = true) : ∀ c, o.op ≠ .defer c := fun c e => by
  unfold noDefer at h
  rw [e] at h
  cases h
def noDf : Code → Bool
  | .region _ ops _ => ops.toList.all noDefer
  | .seq a b => noDf a && noDf b
  | .cond _ a b => noDf a && noDf b
  | .block _ a => noDf a
  | .loop a => noDf a
  | .scope a => noDf a
  | .rangeFunc _ _ _ _ => false
  | _ => true
section
variable {P : Program} {n : Nat} {ops : Array Oper} {Q : Exit → Act → World → Prop} {ro : Option Nat}
theorem wpIn_fw {c : Code} {a : Act} {w : World} : c.wpIn (Fw none) n P Q a w ↔ c.wp P Q a w := wpIn_wide
theorem rowsIn_of {row : String} {args : Array Value} {w : World} {R : Value → World → Prop} (h : Rows P row args w R) : RowsIn (Fw ro) n P row args w R :=
  fun c cs _ => let ⟨v, w', h1, h2⟩ := h c cs; ⟨v, w', h1, stepsIn_wide.2 h2⟩
theorem callsIn_of {f : FuncId} {args : Array Value} {w : World} {R : Ending → World → Prop} (h : Calls P f args w R) : CallsIn (Fw ro) n P f args w R := by
  have := callsIn_wide (n := n).2 h
  exact this
theorem operIn_of {on : Bool} {o : Oper} {a : Act} {w : World} {K K' : Act → World → Prop} (hdf : ro = none ∨ noDefer o = true) (h : OW on P o a w K Q) (hK : ∀ a w, K a w → K' a w) :
    o.wpIn (Fw ro) 0 P a w K' Q := by
  refine ⟨fun _ _ => trivial, ?_⟩
  rcases h with h | ⟨_, l, f, tmps, as', bd, hrun, hnd, hround⟩
  rotate_left
  · rw [show o.semAt (Fw ro).round a.eval = execOp a.eval o from Oper.semAt_eq _ _ _ (noDefer_ok hnd), hrun]
    refine ⟨(fun hh => by cases hh), RoundIn.mono (show RoundIn (Fw ro) 0 P l f tmps as' bd w _ from hround) fun e w' ⟨v, e1, h1⟩ => ?_⟩
    subst e1
    exact hK _ _ h1
  have e : o.semAt (Fw ro).round a.eval = execOp a.eval o := by
    rcases hdf with e | e
    · subst e; rfl
    · exact Oper.semAt_eq _ _ _ (noDefer_ok e)
  rw [e]
  unfold Oper.wp at h
  generalize (execOp a.eval o).run P w = r at h ⊢
  unfold Oper.upon at h
  split at h
  · exact hK _ _ h
  · exact hK _ _ h
  · exact hK _ _ h
  · refine ⟨(fun hh => by cases hh), callsIn_of (h.mono fun e w'' he => ?_)⟩
    cases e with
    | returned v => exact hK _ _ he
    | panicked ch => exact he
    | outgrown => exact he
  · exact ⟨(fun hh => by cases hh), rowsIn_of (h.mono fun v w'' he => hK _ _ he)⟩
  · exact h
  · exact h.elim
theorem wpIn_scope_straight {c : Code} {a : Act} {w : World} (h : c.wpIn (Fw ro) n P (Exit.noGoto Q) a w) : (Code.scope c).wpIn (Fw ro) n P Q a w := by
  intro b k cs hro hb hr
  have calm : ∀ {fr : Frame} {cs : List Frame} {w : World}, (lone fr cs w).fenced P (Fw ro) := fun {fr cs w} => fenced_wide P _
  obtain ⟨e, a₁, w₁, hq, harr⟩ := h b (.inScope c :: k) cs hro hb hr
  have s0 : step P (lone (b.atR a (.code (.scope c) :: k)) cs w) = .next (lone (b.atR a (.code c :: .inScope c :: k)) cs w) := step_lone_go (by simp [stepG, stepG.exec, Frame.atR])
  have s1 : ∀ a w, step P (lone (b.atR a (.inScope c :: k)) cs w) = .next (lone (b.atR a k) cs w) := fun a w => step_lone_go (by simp [stepG, stepG.exec, Frame.atR])
  cases e with
  | normal => exact ⟨.normal, a₁, w₁, hq, .head calm s0 (StepsIn.trans harr (.one calm (s1 _ _)))⟩
  | exit id => exact ⟨.exit id, a₁, w₁, hq, fun k' hk => .head calm s0 (harr.1 k' (by simp [exitTo, hk])), fun hr' hk => let ⟨k₁, h1, h2⟩ := harr.2 hr' (by simp [exitTo, hk]); ⟨k₁, h1, .head calm s0 h2⟩⟩
  | goto l => exact hq.elim
  | ret => exact ⟨_, a₁, w₁, hq, .of_steps (.one calm s0) harr⟩
  | panic ch => exact ⟨_, a₁, w₁, hq, .of_steps (.one calm s0) harr⟩
  | outgrown => exact ⟨_, a₁, w₁, hq, .of_steps (.one calm s0) harr⟩
end
theorem ExR.out {φ : Id → Option Plc} {x : Ex} {x' : Exit} (h : ExR φ x x') : x' ≠ .outgrown := by
  cases x with
  | normal => have : x' = _ := h; subst this; exact nofun
  | exit i => have : x' = _ := h; subst this; exact nofun
  | ret => have : x' = _ := h; subst this; exact nofun
  | pan v => obtain ⟨v', e, _⟩ := h; subst e; exact nofun
theorem WR.loopPut {φ : Id → Option Plc} {sts : List Site} {B : Bse sts} {h : Mem} {nx : Id} {w : World} (hw : WR φ B h nx w) {r : Id} {st : LoopState} {pend : Option Code} {g : Plc} (hr : h.get r = some (.loop st pend)) (hg : φ r = some g) :
    ∃ rec : Loop, w.heap[g.1]? = some (.loop rec) ∧ rec.state = st ∧ rec.pending = pend ∧ ∀ st' pend', WR φ B (h.set r (.loop st' pend')) nx (w.putObj g.1 (.loop { rec with state := st', pending := pend' })) ∧
      Step φ h nx w φ (h.set r (.loop st' pend')) nx (w.putObj g.1 (.loop { rec with state := st', pending := pend' })) := by
  obtain ⟨o, e, rec, rfl, h1, h2⟩ := hw.blk r _ g hr hg
  refine ⟨rec, e, h1, h2, fun st' pend' => ?_⟩
  exact hw.put hr rfl rfl hg rfl rfl rfl World.putObj_size (fun k hk => World.putObj_heap_other hk) (World.putObj_heap_same (hw.lt r g hg)) ⟨_, rfl, rfl, rfl⟩ (.inr fun rec0 e0 => ⟨_, rfl, by rw [e] at e0; cases e0; exact ⟨rfl, rfl, rfl, rfl⟩⟩)
theorem WR.tail {φ : Id → Option Plc} {s : Site} {sts : List Site} {B : Bse (s :: sts)} {h : Mem} {nx : Id} {w : World} (hw : WR φ B h nx w) :
    ∃ (c : Conc) (cs : List Conc), B.cs = c :: cs ∧ SiteR φ w s c ∧ WR φ (⟨B.b, cs⟩ : Bse sts) h nx w := by
  have hl := hw.loops
  cases hc : B.cs with
  | nil => rw [hc] at hl; exact hl.elim
  | cons c cs =>
    rw [hc] at hl
    exact ⟨c, cs, rfl, hl.1, ⟨hw.len, hw.fresh, hw.blk, hw.inj, hw.lt, hw.base, hw.bsz, hl.2, hw.tabs⟩⟩
theorem WR.grow {φ : Id → Option Plc} {s : Site} {sts : List Site} {b : Nat} {c : Conc} {cs : List Conc} {h : Mem} {nx : Id} {w : World} (hw : WR φ (⟨b, cs⟩ : Bse sts) h nx w) (hs : SiteR φ w s c) : WR φ (⟨b, c :: cs⟩ : Bse (s :: sts)) h nx w :=
  ⟨hw.len, hw.fresh, hw.blk, hw.inj, hw.lt, hw.base, hw.bsz, ⟨hs, hw.loops⟩, hw.tabs⟩
noncomputable def onLoop (m : Mem) (r : Id) (k : LoopState → Option Code → R) : R := match m.get r with
  | some (.loop st pend) => k st pend
  | _ => none
theorem onLoop_some {m : Mem} {r : Id} {k : LoopState → Option Code → R} {x : AV × HP} (h : onLoop m r k = some x) : ∃ st pend, m.get r = some (.loop st pend) ∧ k st pend = some x := by
  unfold onLoop at h
  split at h
  · rename_i st pend e; exact ⟨st, pend, e, h⟩
  · cases h
def d4same : D4 → D4 → Bool
  | .a, .a | .b, .b | .c, .c | .d, .d => true
  | _, _ => false
def sameId : Id → Id → Bool
  | [], [] => true
  | x :: p, y :: q => d4same x y && sameId p q
  | _, _ => false
theorem sameId_eq : ∀ {p q : Id}, sameId p q = true → p = q
  | [], [], _ => rfl
  | [], _ :: _, h => by cases h
  | _ :: _, [], h => by cases h
  | x :: p, y :: q, h => by
    simp only [sameId, Bool.and_eq_true] at h
    have e : x = y := by cases x <;> cases y <;> first | rfl | exact absurd h.1 (by decide)
    rw [e, sameId_eq h.2]
section
variable (P : Program) (G dt n : Nat) (lo : Nat → Bool) (opM : OpM) (cmM : CmM) (regM : Array Oper → Option RM) (fuel : Nat)
noncomputable def loopM (m : CM) (fuel : Nat) : Hd → Tr → HP → KC → R :=
  Nat.rec (motive := fun _ => Hd → Tr → HP → KC → R) (fun _ _ _ _ => none) (fun _ ih hd t hp k => m.run hd t hp fun x t hp => Ex.rec (ih hd t hp k) (fun j => k (.exit j) t hp) (k .ret t hp) (fun v => k (.pan v) t hp) x) fuel
noncomputable def setPs : List Tmp → AV → Tr → Option Tr
  | [], .nil, t => some t
  | d :: ps, .cons x r, t => if d < n then setPs ps r (if lo d then t else t.set (path dt d) x) else none
  | _, _, _ => none
noncomputable def roundM (ps : List Tmp) (mA mB : CM) (hd : Hd) (r : Id) (t : Tr) (args : AV) (hp : HP) (k : KV) : R :=
  onLoop hp.m r fun st _ => match st with
    | .ready => match setPs dt n lo ps args t with
      | some t1 => mA.run hd t1 hp fun x t2 hp2 => match x with
        | .normal => onLoop hp2.m r fun st2 pend2 => match st2 with
          | .ready => mB.run hd t2 (.mk (hp2.m.set r (.loop .busy pend2)) hp2.nx) fun x t3 hp3 => onLoop hp3.m r fun _ _ => match x with
            | .normal => k (.b true) (.mk (hp3.m.set r (.loop .ready none)) hp3.nx)
            | .ret => k (.b false) (.mk (hp3.m.set r (.loop .done (some .ret))) hp3.nx)
            | .exit i => k (.b false) (.mk (hp3.m.set r (.loop .done (some (.exit i)))) hp3.nx)
            | .pan _ => none
          | _ => none
        | _ => none
      | none => none
    | _ => none
noncomputable def jumpM (pend : Option Code) (k : Ex → R) : R := match pend with
  | none => k .normal
  | some .ret => k .ret
  | some (.exit i) => k (.exit i)
  | _ => none
noncomputable def rangeM (ps : Array Tmp) (as' bd : Code) (gv : GV) (mA mB : CM) : CM := .mk fun hd t hp k => (gv.run [] t).on_fn fun f first cap => match f with
  | .func fid => match hd.b.e fid with
    | true => match hp with
      | .mk m nx => match last nx, last (inc nx) with
        | false, false =>
          hd.b.c ⟨⟨inc nx, dt, n, lo, t.set (path dt n) .u, ps, as', bd⟩ :: hd.y.s, true, fun q args hp k => match sameId q (inc nx) with
              | true => roundM dt n lo ps.toList mA mB hd (inc nx) (t.set (path dt n) .u) args hp k
              | false => hd.y.f q args hp k⟩ fid (first.app (.cons (.yd (inc nx)) cap)) (.mk ((m.set nx (.dfd true)).set (inc nx) (.loop .ready none)) (inc (inc nx)))
            (fun _ hp2 => onLoop hp2.m (inc nx) fun st pend => match st with
              | .busy => none
              | _ => jumpM pend fun x => k x (t.set (path dt n) (.cons (.mp nx) (getT (path dt n) t))) (.mk (hp2.m.set (inc nx) (.loop .exhausted pend)) hp2.nx))
            (fun _ _ => none)
        | _, _ => none
    | false => none
  | _ => none
noncomputable def codeM : Code → CM
  | .skip => .mk fun _ t hp k => k .normal t hp
  | .label _ => .mk fun _ t hp k => k .normal t hp
  | .region _ ops draw => match draw with
    | false => let m := opsM G dt n lo opM cmM ops ops.toList []; .mk fun hd t hp k => m.run hd [] t hp k
    | true => match regM ops with
      | some m => .mk fun hd t hp k => m.run hd [] t hp k
      | none => .mk fun _ _ _ _ => none
  | .seq a b => let ma := codeM a; let mb := codeM b; .mk fun hd t hp k => ma.run hd t hp fun x t hp => Ex.rec (mb.run hd t hp k) (fun i => k (.exit i) t hp) (k .ret t hp) (fun v => k (.pan v) t hp) x
  | .cond c a b => let g := opd G dt n [] c; let ma := codeM a; let mb := codeM b; .mk fun hd t hp k => (g.run [] t).on_b fun x => Bool.rec (mb.run hd t hp k) (ma.run hd t hp k) x
  | .block i a => let ma := codeM a; .mk fun hd t hp k => ma.run hd t hp fun x t hp => Ex.rec (k .normal t hp) (fun j => Bool.rec (k (.exit j) t hp) (k .normal t hp) (Nat.beq j i)) (k .ret t hp) (fun v => k (.pan v) t hp) x
  | .loop a => let ma := codeM a; .mk (loopM ma fuel)
  | .scope a => codeM a
  | .exit i => .mk fun _ t hp k => k (.exit i) t hp
  | .ret => .mk fun _ t hp k => k .ret t hp
  | .rangeFunc g ps as' bd => match noDf as' && noDf bd with
    | true => let gv := opd G dt n [] g; let mA := codeM as'; let mB := codeM bd; rangeM dt n lo ps as' bd gv mA mB
    | false => .mk fun _ _ _ _ => none
  | _ => .mk fun _ _ _ _ => none
variable {P G dt n lo opM cmM regM fuel}
abbrev AfterC (P : Program) (G dt n : Nat) (lo : Nat → Bool) (hd : Hd) (t : Tr) (hp : HP) (x : Ex) (t' : Tr) (hp' : HP) (W : (Exit → Act → World → Prop) → Act → World → Prop) : Prop :=
  ∀ φ (B : Bse hd.y.s) a w, Glo G φ → FR φ dt n lo t a → WH φ B hp w → ∀ Q, (∀ ψ a' w' x', ExR ψ x x' → FR ψ dt n lo t' a' → StH φ hp w ψ hp' w' → WH ψ B hp' w' → Q x' a' w') → W Q a w
def CMOk (P : Program) (G dt n : Nat) (lo : Nat → Bool) (c : Code) (m : CM) : Prop :=
  ∀ hd, HdOk P G hd → ∀ t hp k r, m.run hd t hp k = some r → ∃ x t' hp', k x t' hp' = some r ∧ AfterC P G dt n lo hd t hp x t' hp' fun Q a w => ∀ ro, ro = none ∨ noDf c = true → c.wpIn (Fw ro) 0 P Q a w
theorem CMOk.wp {c : Code} {m : CM} (h : CMOk P G dt n lo c m) {hd : Hd} (hok : HdOk P G hd) {t : Tr} {hp : HP} {k : KC} {r : AV × HP} (hr : m.run hd t hp k = some r) :
    ∃ x t' hp', k x t' hp' = some r ∧ AfterC P G dt n lo hd t hp x t' hp' fun Q a w => c.wp P Q a w := by
  obtain ⟨x, t', hp', h1, h2⟩ := h hd hok t hp k r hr
  exact ⟨x, t', hp', h1, fun φ B a w g1 g2 g3 Q hQ => wpIn_fw.1 (h2 φ B a w g1 g2 g3 Q hQ none (.inl rfl))⟩
def RgOk (P : Program) (G dt n : Nat) (lo : Nat → Bool) (id : Nat) (ops : Array Oper) (m : RM) : Prop :=
  ∀ hd, HdOk P G hd → ∀ t hp k r, m.run hd [] t hp k = some r → ∃ x t' hp', k x t' hp' = some r ∧ AfterC P G dt n lo hd t hp x t' hp' fun Q a w => ∀ ro, ro = none ∨ ops.toList.all noDefer = true → (Code.region id ops true).wpIn (Fw ro) 0 P Q a w
def LW (ro : Option Nat) (P : Program) (c : Code) (Q : Exit → Act → World → Prop) (a : Act) (w : World) : Prop :=
  ∀ (b : Frame) (k : List Item) (cs : List Frame), b.roundOf = ro → ∃ e a' w', Q e a' w' ∧ ArrivesIn (Machine.fenced P Fence.wide) P (lone (b.atR a (.code c :: .inLoop c :: k)) cs w) b k cs e a' w'
theorem lw_step {ro : Option Nat} {c : Code} {Q : Exit → Act → World → Prop} {a : Act} {w : World} (h : c.wpIn (Fw ro) 0 P (Exit.then (LW ro P c Q) Q) a w) : LW ro P c Q a w := by
  intro b k cs hro
  have calm : ∀ {m : Machine}, m.fenced P Fence.wide := fun {m} => fenced_wide P m
  obtain ⟨e, a₁, w₁, hq, harr⟩ := h b (.inLoop c :: k) cs hro trivial (room_wide _)
  have harr' : ArrivesIn (Machine.fenced P Fence.wide) P (lone (b.atR a (.code c :: .inLoop c :: k)) cs w) b (.inLoop c :: k) cs e a₁ w₁ := harr
  cases e with
  | normal =>
    obtain ⟨e₂, a₂, w₂, hq₂, harr₂⟩ := hq b k cs hro
    exact ⟨e₂, a₂, w₂, hq₂, .of_steps (StepsIn.trans harr' (.one calm stepR_inLoop)) harr₂⟩
  | exit id => exact ⟨_, a₁, w₁, hq, .pass (x := .inLoop c) rfl (fun _ _ => .inl (by simp)) harr'⟩
  | goto l => exact ⟨_, a₁, w₁, hq, .pass (x := .inLoop c) rfl (fun _ _ => .inl (by simp)) harr'⟩
  | ret => exact ⟨_, a₁, w₁, hq, .pass (x := .inLoop c) rfl (fun _ _ => .inl (by simp)) harr'⟩
  | panic ch => exact ⟨_, a₁, w₁, hq, .pass (x := .inLoop c) rfl (fun _ _ => .inl (by simp)) harr'⟩
  | outgrown => exact ⟨_, a₁, w₁, hq, .pass (x := .inLoop c) rfl (fun _ _ => .inl (by simp)) harr'⟩
theorem wp_of_lw {ro : Option Nat} {c : Code} {Q : Exit → Act → World → Prop} {a : Act} {w : World} (h : LW ro P c Q a w) : (Code.loop c).wpIn (Fw ro) 0 P Q a w := by
  intro b k cs hro _ _
  obtain ⟨e, a', w', hq, harr⟩ := h b k cs hro
  have calm : ∀ {m : Machine}, m.fenced P Fence.wide := fun {m} => fenced_wide P m
  have h2 : ArrivesIn (Machine.fenced P Fence.wide) P (lone (b.atR a (.code (.loop c) :: k)) cs w) b k cs e a' w' := .of_steps (.one calm stepR_loop) harr
  exact ⟨e, a', w', hq, h2⟩
theorem ExR.to {φ : Id → Option Plc} {x : Ex} {x' : Exit} (h : ExR φ x x') : (x = .normal ∧ x' = .normal) ∨ (x ≠ .normal ∧ x' ≠ .normal) := by
  cases x with
  | normal => exact .inl ⟨rfl, h⟩
  | exit i => have : x' = _ := h; subst this; exact .inr ⟨nofun, nofun⟩
  | ret => have : x' = _ := h; subst this; exact .inr ⟨nofun, nofun⟩
  | pan v => obtain ⟨v', e, _⟩ := h; subst e; exact .inr ⟨nofun, nofun⟩
theorem then_of {next : Act → World → Prop} {Q : Exit → Act → World → Prop} {x' : Exit} {a : Act} {w : World} (hn : x' ≠ .normal) (h : Q x' a w) : Exit.then next Q x' a w := by
  cases x' <;> first | exact absurd rfl hn | exact h
theorem loop_ok {c : Code} {m : CM} (hm : CMOk P G dt n lo c m) (hd : Hd) (hok : HdOk P G hd) : ∀ (fuel : Nat) (t : Tr) (hp : HP) (k : KC) r, loopM m fuel hd t hp k = some r → ∃ x t' hp', k x t' hp' = some r ∧
    AfterC P G dt n lo hd t hp x t' hp' fun Q a w => ∀ ro, ro = none ∨ noDf c = true → LW ro P c Q a w
  | 0, t, hp, k, r, hr => by cases hr
  | j + 1, t, hp, k, r, hr => by
    obtain ⟨x1, t1, hp1, h1, h2⟩ := hm hd hok t hp _ r hr
    have out : ∀ x1', x1' ≠ .normal → x1 = x1' → k x1' t1 hp1 = some r → ∃ x t' hp', k x t' hp' = some r ∧
        AfterC P G dt n lo hd t hp x t' hp' fun Q a w => ∀ ro, ro = none ∨ noDf c = true → LW ro P c Q a w := by
      intro x1' hne e hk
      subst e
      exact ⟨x1, t1, hp1, hk, fun φ B a w g1 g2 g3 Q hQ ro hro => lw_step (h2 φ B a w g1 g2 g3 _ (fun ψ a' w' x' f0 f1 f2 f3 => then_of (by rcases f0.to with ⟨e, _⟩ | ⟨_, e⟩; exact absurd e hne; exact e) (hQ ψ a' w' x' f0 f1 f2 f3)) ro hro)⟩
    cases x1 with
    | normal =>
      obtain ⟨x, t', hp', h3, h4⟩ := loop_ok hm hd hok j t1 hp1 k r h1
      refine ⟨x, t', hp', h3, fun φ B a w g1 g2 g3 Q hQ ro hro => lw_step ?_⟩
      refine h2 φ B a w g1 g2 g3 _ (fun ψ a' w' x' f0 f1 f2 f3 => ?_) ro hro
      have : x' = .normal := f0
      subst this
      exact h4 ψ B a' w' (g1.more f2.more) f1 f3 Q (fun χ a'' w'' x'' e0 e1 e2 e3 => hQ χ a'' w'' x'' e0 e1 (f2.trans e2) e3) ro hro
    | exit i => exact out (.exit i) nofun rfl h1
    | ret => exact out .ret nofun rfl h1
    | pan v => exact out (.pan v) nofun rfl h1
def AW (ro : Option Nat) (P : Program) (ops : Array Oper) (Q : Exit → Act → World → Prop) (l : List Nat) (a : Act) (w : World) : Prop :=
  ∀ (b : Frame) (k : List Item) (cs : List Frame), b.roundOf = ro → ∃ e a' w', Q e a' w' ∧ ArrivesIn (Machine.fenced P (Fw ro)) P (lone (b.atR a (.inRegion ops l :: k)) cs w) b k cs e a' w'
theorem aw_nil {ops : Array Oper} {Q : Exit → Act → World → Prop} {ro : Option Nat} {a : Act} {w : World} (h : Q .normal a w) : AW ro P ops Q [] a w := fun b k cs _ => ⟨.normal, a, w, h, .one (fenced_wide P _) stepR_region_end⟩
theorem aw_region {ops : Array Oper} {Q : Exit → Act → World → Prop} {ro : Option Nat} {id : Nat} {a : Act} {w : World} (h : AW ro P ops Q (List.range ops.size) a w) : (Code.region id ops false).wpIn (Fw ro) 0 P Q a w :=
  fun b k cs hro hb hr => let ⟨e, a', w', q, r⟩ := h b k cs hro; ⟨e, a', w', q, .of_steps (.one (fenced_wide P _) stepR_region) r⟩
theorem aw_skip {ops : Array Oper} {Q : Exit → Act → World → Prop} {ro : Option Nat} {a : Act} {w : World} {i : Nat} {rest : List Nat} {o : Oper} (ho : ops[i]? = some o) (hw : ¬ Region.wanted o (yielded ops a.tmps) = true) (h : AW ro P ops Q rest (a.put o.dst undef) w) : AW ro P ops Q (i :: rest) a w := by
  intro b k cs hro
  obtain ⟨e, a', w', hq, harr⟩ := h b k cs hro
  have hs := stepR_op_skip (P := P) (b := b) (a := a) (k := k) (cs := cs) (w := w) (ops := ops) (i := i) (rest := rest) (by simp [ho]; simpa using hw)
  simp only [ho, Option.bind_some] at hs
  exact ⟨e, a', w', hq, .of_steps (.one (fenced_wide P _) hs) harr⟩
theorem aw_oper {ops : Array Oper} {Q : Exit → Act → World → Prop} {ro : Option Nat} {a : Act} {w : World} {i : Nat} {rest : List Nat} {o : Oper} (ho : ops[i]? = some o) (hw : Region.wanted o (yielded ops a.tmps) = true) (h : o.wpIn (Fw ro) 0 P a w (AW ro P ops Q rest) Q) : AW ro P ops Q (i :: rest) a w := by
  intro b k cs hro
  have calm : ∀ {m : Machine}, m.fenced P (Fw ro) := fun {m} => fenced_wide P m
  obtain ⟨_, h⟩ := h
  simp only [Oper.uponIn] at h
  have hg := stepGR_op (P := P) (b := b) (k := k) (cs := cs) (w := w) (rest := rest) ho hw
  rw [hro] at hg
  have hfin : ∀ v, (b.atR a (.inRegion ops (i :: rest) :: k)).finish v = b.atR (a.put o.dst v) (.inRegion ops rest :: k) := by
    intro v; rw [Frame.finish_atR, ho]; rfl
  split at h
  · rename_i v w' hr'
    obtain ⟨e, a', w'', hq, harr⟩ := h b k cs hro
    refine ⟨e, a', w'', hq, .of_steps (.one calm (step_lone_go ?_)) harr⟩
    rw [hg, ← hfin]; simp [stepG.apply, hr']
  · rename_i w' hr'
    obtain ⟨e, a', w'', hq, harr⟩ := h b k cs hro
    refine ⟨e, a', w'', hq, .of_steps (.one calm (step_lone_go ?_)) harr⟩
    rw [hg, ← hfin]; simp [stepG.apply, hr']
  · rename_i d w' hr'
    obtain ⟨e, a', w'', hq, harr⟩ := h b k cs hro
    refine ⟨e, a', w'', hq, .of_steps (.one calm (step_lone_go ?_)) harr⟩
    have : ({ b.atR a (.inRegion ops (i :: rest) :: k) with defers := d :: a.defers } : Frame).finish undef = b.atR ({ a with defers := d :: a.defers }.put o.dst undef) (.inRegion ops rest :: k) := by
      have := Frame.finish_atR b { a with defers := d :: a.defers } ops i rest k undef
      rw [ho] at this; exact this
    rw [hg]; simp only [stepG.apply, Sem.runT_eq, hr', GStep.bare_after]
    exact congrArg (fun fr => GStep.go { frame := fr, callers := cs, status := .running, dying := none } w') this
  · rename_i f args w' hr'
    obtain ⟨_, _, h⟩ := h
    obtain ⟨e, w'', fr, hR, hsteps, hfn, hleave⟩ := h (b.atR a (.inRegion ops (i :: rest) :: k) :: cs) (room_wide _)
    have henter : step P (lone (b.atR a (.inRegion ops (i :: rest) :: k)) cs w) = .next (lone (Frame.enter P f args .normal) (b.atR a (.inRegion ops (i :: rest) :: k) :: cs) w') :=
      step_lone_go (by rw [hg]; simp [stepG.apply, hr', Frame.atR])
    cases e with
    | returned v =>
      obtain ⟨e, a', w₃, hq, harr⟩ := hR b k cs hro
      refine ⟨e, a', w₃, hq, .of_steps (.head calm henter (StepsIn.trans hsteps (.one calm ?_))) harr⟩
      rw [← hfin]; exact step_leave_returned hleave
    | panicked chain =>
      refine ⟨.panic chain, a, w'', hR, .inRegion ops (i :: rest) :: k, .head calm henter (StepsIn.trans hsteps (.one calm ?_))⟩
      rw [← Frame.raise_atR]; exact step_leave_panicked hleave
    | outgrown =>
      obtain ⟨a₀, w₀, hq⟩ := hR
      exact ⟨.outgrown, a₀, w₀, hq, .inr (Outgrown.of_steps (.one henter) hsteps)⟩
  · rename_i row args w' hr'
    obtain ⟨_, h⟩ := h
    obtain ⟨v, w'', hR, hsteps⟩ := h (b.atR a (.inRegion ops (i :: rest) :: k)) cs (room_wide _)
    have henter : step P (lone (b.atR a (.inRegion ops (i :: rest) :: k)) cs w) = .next (lone (Frame.ofRow P row args .normal) (b.atR a (.inRegion ops (i :: rest) :: k) :: cs) w') :=
      step_lone_go (by rw [hg]; simp [stepG.apply, hr', Frame.atR])
    obtain ⟨e, a', w₃, hq, harr⟩ := hR b k cs hro
    refine ⟨e, a', w₃, hq, .of_steps (.head calm henter ?_) harr⟩
    rw [← hfin]; exact hsteps
  · rename_i l f tmps assign body w' hr'
    obtain ⟨_, _, h⟩ := h
    obtain ⟨e, w'', hR, hsteps⟩ := h (b.atR a (.inRegion ops (i :: rest) :: k)) cs (room_wide _)
    have henter : step P (lone (b.atR a (.inRegion ops (i :: rest) :: k)) cs w) = .next (lone (Frame.round l f tmps assign body .normal) (b.atR a (.inRegion ops (i :: rest) :: k) :: cs) w') :=
      step_lone_go (by rw [hg]; simp [stepG.apply, hr', Frame.atR])
    cases e with
    | returned v =>
      obtain ⟨e, a', w₃, hq, harr⟩ := hR b k cs hro
      refine ⟨e, a', w₃, hq, .of_steps (.head calm henter ?_) harr⟩
      rw [← hfin]; exact hsteps
    | panicked chain =>
      refine ⟨.panic chain, a, w'', hR, .inRegion ops (i :: rest) :: k, .head calm henter ?_⟩
      rw [← Frame.raise_atR]; exact hsteps
    | outgrown =>
      obtain ⟨a₀, w₀, hq⟩ := hR
      exact ⟨.outgrown, a₀, w₀, hq, .inr (Outgrown.of_steps (.one henter) hsteps)⟩
  · rename_i v w' hr'
    refine ⟨_, a, w', h, .inRegion ops (i :: rest) :: k, .one calm (step_lone_go ?_)⟩
    rw [hg, ← Frame.raise_atR]; simp [stepG.apply, hr']
  · exact h.elim
theorem aw_comm {ops : Array Oper} {Q : Exit → Act → World → Prop} {ro : Option Nat} {a : Act} {w : World} {i : Nat} {rest : List Nat} {o : Oper} (ho : ops[i]? = some o) (hw : Region.wanted o (yielded ops a.tmps) = true) (h : CW P o a w (AW ro P ops Q rest)) : AW ro P ops Q (i :: rest) a w := by
  intro b k cs hro
  have calm : ∀ {m : Machine}, m.fenced P (Fw ro) := fun {m} => fenced_wide P m
  obtain ⟨cases', bl, sh, v, w', hrun, hnd, hlaw, hK⟩ := h
  obtain ⟨e, a', w'', hq, harr⟩ := hK b k cs hro
  have hg := stepGR_op (P := P) (b := b) (k := k) (cs := cs) (w := w) (rest := rest) ho hw
  rw [hro, Oper.semAt_eq _ _ _ (noDefer_ok hnd)] at hg
  have hfin : (b.atR a (.inRegion ops (i :: rest) :: k)).finish v = b.atR (a.put o.dst v) (.inRegion ops rest :: k) := by
    rw [Frame.finish_atR, ho]; rfl
  refine ⟨e, a', w'', hq, .of_steps (.one calm ?_) harr⟩
  rw [← hfin]
  obtain ⟨es, hes⟩ : ∃ es, stepG P true { frame := b.atR a (.inRegion ops (i :: rest) :: k), callers := cs, status := .running, dying := none } w = .comm { frame := b.atR a (.inRegion ops (i :: rest) :: k), callers := cs, status := .running, dying := none } cases' bl sh w es := ⟨_, by rw [hg]; simp only [stepG.apply, Sem.runT_eq, hrun]; rfl⟩
  exact hlaw _ cs w es hes
theorem opsM_ok (hop : ∀ ds o q, opM ds o = some q → OmOk P G dt n ds o q) (hcm : ∀ ds o F, cmM ds o = some F → ComOk P G dt n ds o F) (ops : Array Oper) {hd : Hd} (hok : HdOk P G hd) {t : Tr} {hp : HP} {k : KC} {r : AV × HP} (hr : (opsM G dt n lo opM cmM ops ops.toList []).run hd [] t hp k = some r) :
    ∃ x t' hp', k x t' hp' = some r ∧ AfterC P G dt n lo hd t hp x t' hp' fun Q a w => ∀ ro, ro = none ∨ ops.toList.all noDefer = true → AW ro P ops Q (List.range ops.size) a w := by
  obtain ⟨x, t', hp', h1, h2⟩ := opsM_gen (P := P) (cm := true) hop (fun ds o F h => ⟨rfl, hcm ds o F h⟩) ops hd.y.on (fun Q l a w => ∀ ro j, ro = none ∨ l.all noDefer = true → ops.toList.drop j = l → AW ro P ops Q (List.range' j l.length) a w)
    (fun Q a w h ro j _ _ => aw_nil h)
    (fun Q o l a w h ro j hro hj => by
      have hj0 : ops[j]? = some o := by
        rw [← Array.getElem?_toList]
        have := congrArg (fun l => l[0]?) hj
        simpa using this
      have hro' : (ro = none ∨ noDefer o = true) ∧ (ro = none ∨ l.all noDefer = true) := by
        rcases hro with e | e
        · exact ⟨.inl e, .inl e⟩
        · rw [List.all_cons, Bool.and_eq_true] at e
          exact ⟨.inr e.1, .inr e.2⟩
      have hjl : ops.toList.drop (j + 1) = l := by
        rw [← List.drop_drop, hj]
        rfl
      have h' := h (fun a w => AW ro P ops Q (List.range' (j + 1) l.length) a w) fun a w hW => hW ro (j + 1) hro'.2 hjl
      rw [List.length_cons, List.range'_succ]
      split at h'
      · rename_i hw
        rcases h' with h' | ⟨_, h'⟩
        · exact aw_oper hj0 hw (operIn_of hro'.1 h' fun a w k => k)
        · exact aw_comm hj0 hw h'
      · rename_i hw
        exact aw_skip hj0 hw h') ops.toList [] hd rfl hok [] t hp k r hr
  refine ⟨x, t', hp', h1, fun φ B a w g1 g2 g3 Q hQ ro hro => ?_⟩
  have := h2 φ B a w g1 g2 (EnvR.nil φ [] _) g3 Q hQ ro 0 hro (by simp)
  rw [List.range_eq_range']
  rw [Array.length_toList] at this
  exact this
theorem FR.mark {φ : Id → Option Plc} {t : Tr} {a : Act} (hf : FR φ dt n lo t a) {q : Id} {g : Plc} (hq : φ q = some g) : FR φ dt n lo (t.set (path dt n) (.cons (.mp q) (getT (path dt n) t))) { a with defers := { target := .collected g.1, args := #[] } :: a.defers } := by
  have ne : ∀ k, k < n → path dt k ≠ path dt n := fun k hk e => Nat.ne_of_lt hk (path_inj dt k n (Nat.lt_trans hk hf.cap) hf.cap e)
  refine ⟨hf.sz, hf.cap, fun k hk => ?_, fun k hk hl => ?_, ?_⟩
  · rw [getT_get, T4.get_set_other _ _ _ _ (by rw [path_len, path_len]) (ne k hk), ← getT_get]; exact hf.at' k hk
  · rw [getT_get, T4.get_set_other _ _ _ _ (by rw [path_len, path_len]) (ne k hk), ← getT_get]; exact hf.lo k hk hl
  · rw [getT_get (path dt n) (t.set _ _), T4.get_set_same]
    exact ⟨g, a.defers, hq, rfl, hf.df⟩
theorem FR.setS {φ : Id → Option Plc} {t : Tr} {a : Act} (hf : FR φ dt n lo t a) {d : Nat} {x : AV} {v : Value} (hd : d < n) (hx : VR φ x v) : FR φ dt n lo (if lo d then t else t.set (path dt d) x) { a with tmps := a.tmps.setIfInBounds d v } := by
  by_cases hl : lo d = true
  · rw [if_pos hl]; exact hf.put_lo (v' := v) hd hl
  · rw [if_neg hl]; exact hf.put (v' := v) hd (by simpa using hl) hx
theorem setPs_ok {φ : Id → Option Plc} : ∀ {ps : List Tmp} {args : AV} {t t1 : Tr} {vs : List Value} {tmps : Array Value}, setPs dt n lo ps args t = some t1 → VL φ args vs → FR φ dt n lo t { tmps := tmps, defers := [] } →
    vs.length = ps.length ∧ FR φ dt n lo t1 { tmps := (ps.zip vs).foldl (fun tmps (t, a) => tmps.setIfInBounds t a) tmps, defers := [] }
  | [], .nil, t, t1, vs, tmps, h, hv, hf => by
    have hv' : vs = [] := hv
    subst hv'
    cases h
    exact ⟨rfl, hf⟩
  | d :: ps, .cons x r, t, t1, vs, tmps, h, ⟨v, vs', e, h1, h2⟩, hf => by
    subst e
    unfold setPs at h
    split at h
    · rename_i hd
      have hf' : FR φ dt n lo (if lo d then t else t.set (path dt d) x) { tmps := tmps.setIfInBounds d v, defers := [] } := FR.setS (a := { tmps := tmps, defers := [] }) hf hd h1
      obtain ⟨q1, q2⟩ := setPs_ok h h2 hf'
      exact ⟨by simp [q1], q2⟩
    · cases h
  | [], .cons _ _, t, t1, vs, tmps, h, hv, hf => by cases h
  | d :: ps, .nil, t, t1, vs, tmps, h, hv, hf => by cases h
  | [], .u, t, t1, vs, tmps, h, hv, hf => hv.elim
  | d :: ps, .u, t, t1, vs, tmps, h, hv, hf => hv.elim
  | [], .inil, t, t1, vs, tmps, h, hv, hf => hv.elim
  | d :: ps, .inil, t, t1, vs, tmps, h, hv, hf => hv.elim
  | [], .ifc _ _, t, t1, vs, tmps, h, hv, hf => hv.elim
  | d :: ps, .ifc _ _, t, t1, vs, tmps, h, hv, hf => hv.elim
  | [], .fnil, t, t1, vs, tmps, h, hv, hf => hv.elim
  | d :: ps, .fnil, t, t1, vs, tmps, h, hv, hf => hv.elim
  | [], .fn _ _ _, t, t1, vs, tmps, h, hv, hf => hv.elim
  | d :: ps, .fn _ _ _, t, t1, vs, tmps, h, hv, hf => hv.elim
  | [], .mn, t, t1, vs, tmps, h, hv, hf => hv.elim
  | d :: ps, .mn, t, t1, vs, tmps, h, hv, hf => hv.elim
  | [], .mp _, t, t1, vs, tmps, h, hv, hf => hv.elim
  | d :: ps, .mp _, t, t1, vs, tmps, h, hv, hf => hv.elim
  | [], .tu _, t, t1, vs, tmps, h, hv, hf => hv.elim
  | d :: ps, .tu _, t, t1, vs, tmps, h, hv, hf => hv.elim
  | [], .ag _, t, t1, vs, tmps, h, hv, hf => hv.elim
  | d :: ps, .ag _, t, t1, vs, tmps, h, hv, hf => hv.elim
  | [], .sn, t, t1, vs, tmps, h, hv, hf => hv.elim
  | d :: ps, .sn, t, t1, vs, tmps, h, hv, hf => hv.elim
  | [], .sl _ _ _ _, t, t1, vs, tmps, h, hv, hf => hv.elim
  | d :: ps, .sl _ _ _ _, t, t1, vs, tmps, h, hv, hf => hv.elim
  | [], .sg _ _ _ _, t, t1, vs, tmps, h, hv, hf => hv.elim
  | d :: ps, .sg _ _ _ _, t, t1, vs, tmps, h, hv, hf => hv.elim
  | [], .se _ _ _, t, t1, vs, tmps, h, hv, hf => hv.elim
  | d :: ps, .se _ _ _, t, t1, vs, tmps, h, hv, hf => hv.elim
  | [], .yd _, t, t1, vs, tmps, h, hv, hf => hv.elim
  | d :: ps, .yd _, t, t1, vs, tmps, h, hv, hf => hv.elim
  | [], .ch _, t, t1, vs, tmps, h, hv, hf => hv.elim
  | d :: ps, .ch _, t, t1, vs, tmps, h, hv, hf => hv.elim
  | [], .pn, t, t1, vs, tmps, h, hv, hf => hv.elim
  | d :: ps, .pn, t, t1, vs, tmps, h, hv, hf => hv.elim
  | [], .p _ _, t, t1, vs, tmps, h, hv, hf => hv.elim
  | d :: ps, .p _ _, t, t1, vs, tmps, h, hv, hf => hv.elim
  | [], .s _, t, t1, vs, tmps, h, hv, hf => hv.elim
  | d :: ps, .s _, t, t1, vs, tmps, h, hv, hf => hv.elim
  | [], .b _, t, t1, vs, tmps, h, hv, hf => hv.elim
  | d :: ps, .b _, t, t1, vs, tmps, h, hv, hf => hv.elim
  | [], .i _ _, t, t1, vs, tmps, h, hv, hf => hv.elim
  | d :: ps, .i _ _, t, t1, vs, tmps, h, hv, hf => hv.elim
theorem roundM_ok {ps : Array Tmp} {as' bd : Code} {mA mB : CM} (hA : CMOk P G dt n lo as' mA) (hB : CMOk P G dt n lo bd mB) (hdf : noDf as' = true ∧ noDf bd = true) {hd : Hd} (hok : HdOk P G hd) {q : Id} {t : Tr} {args : AV} {hp : HP} {k : KV} {x : AV × HP}
    (hr : roundM dt n lo ps.toList mA mB hd q t args hp k = some x) : ∃ v hp', k v hp' = some x ∧ ∀ φ (B : Bse (⟨q, dt, n, lo, t, ps, as', bd⟩ :: hd.y.s)) w (ars : Array Value) g, Glo G φ → WH φ B hp w → VL φ args ars.toList → φ q = some g → RoundOk P g.1 ars w (Aft φ B hp w v hp') := by
  unfold roundM at hr
  obtain ⟨st, pd0, hm0, hr⟩ := onLoop_some hr
  cases st with
  | busy => cases hr
  | done => cases hr
  | exhausted => cases hr
  | ready =>
  simp only at hr
  cases hps : setPs dt n lo ps.toList args t with
  | none => simp only [hps] at hr; cases hr
  | some t1 =>
  simp only [hps] at hr
  obtain ⟨x1, t2, hp2, hr1, hAw⟩ := hA hd hok t1 hp _ x hr
  cases x1 with
  | exit i => cases hr1
  | ret => cases hr1
  | pan v => cases hr1
  | normal =>
  simp only at hr1
  obtain ⟨st2, pd2, hm2, hr1⟩ := onLoop_some hr1
  cases st2 with
  | busy => cases hr1
  | done => cases hr1
  | exhausted => cases hr1
  | ready =>
  simp only at hr1
  obtain ⟨x2, t3, hp3, hr2, hBw⟩ := hB hd hok t2 _ _ x hr1
  obtain ⟨st3, pd3, hm3, hr2⟩ := onLoop_some hr2
  have all : ∀ (v : AV) (st' : LoopState) (pend' : Option Code) (jump : Option Code) , (∀ ψ x', ExR ψ x2 x' → ∀ (l : Nat) (R : Ending → World → Prop) (a : Act) (w : World), (∃ v w', (Instr.endRound l jump).run P w = .ok v w' ∧ R (.returned v) w') → roundPost P l R x' a w) →
      (pend' = jump ∧ st' = if jump.isNone then .ready else .done) → (∀ ψ, VR ψ v (.bool jump.isNone)) →
      ∀ φ (B : Bse (⟨q, dt, n, lo, t, ps, as', bd⟩ :: hd.y.s)) w (ars : Array Value) g, Glo G φ → WH φ B hp w → VL φ args ars.toList → φ q = some g → RoundOk P g.1 ars w (Aft φ B hp w v (.mk (hp3.m.set q (.loop st' pend')) hp3.nx)) := by
    intro v st' pend' jump hpost hst hv φ B w ars g g1 hw hargs hg
    obtain ⟨cc, cs, hcs, hsite, hw0⟩ := WR.tail hw
    obtain ⟨K0, hpl⟩ := hsite.pl
    have hgl : g = (cc.l, K0) := by rw [show φ q = some (cc.l, K0) from hpl] at hg; cases hg; rfl
    subst hgl
    obtain ⟨rec, hrec, q1, q2, q3, q4⟩ := hsite.rc
    have hf0 : FR φ dt n lo t { tmps := rec.tmps, defers := [] } := by
      rw [q1]
      refine ⟨hsite.sz, hsite.cap, fun d hd' => ?_, fun d hd' hl => ?_, ?_⟩
      · rw [getT_get]; exact hsite.at' d hd'
      · rw [getT_get]; exact hsite.lo d hd' hl
      · rw [getT_get]
        have hdfs : (t.get (path dt n)).getD .u = .u := hsite.df
        rw [hdfs]
        rfl
    obtain ⟨hlen, hf1⟩ := setPs_ok hps hargs hf0
    have q2' : rec.params = ps := q2
    have hsize : ars.size = rec.params.size := by rw [q2', ← Array.length_toList, ← Array.length_toList]; exact hlen
    refine ⟨rec.fn, _, rec.assign, rec.body, run_yield hrec hsize, ?_⟩
    have q3' : rec.assign = as' := q3
    have q4' : rec.body = bd := q4
    rw [q3', q4']
    have htm : (rec.params.zip ars).foldl (fun tmps (t, a) => tmps.setIfInBounds t a) rec.tmps = (ps.toList.zip ars.toList).foldl (fun tmps (t, a) => tmps.setIfInBounds t a) rec.tmps := by
      rw [q2', ← Array.foldl_toList, Array.toList_zip]
    rw [htm]
    have back : ∀ {ψ : Id → Option Plc} {hp' : HP} {w' : World}, StH φ hp w ψ hp' w' → WH ψ (⟨B.b, cs⟩ : Bse hd.y.s) hp' w' → WH ψ B hp' w' := by
      intro ψ hp' w' hs hw'
      have h1 : WR ψ (⟨B.b, cc :: cs⟩ : Bse (⟨q, dt, n, lo, t, ps, as', bd⟩ :: hd.y.s)) hp'.m hp'.nx w' := WR.grow hw' (hsite.mono hs.more hs.lk)
      have h2 : B = ⟨B.b, cc :: cs⟩ := by rw [← hcs]
      rw [h2]
      exact h1
    refine roundIn_of_wpIn trivial ?_
    refine hAw φ ⟨B.b, cs⟩ _ w g1 hf1 hw0 _ (fun ψ a1 w1 x1' f0 f1 f2 f3 => ?_) (some cc.l) (.inr hdf.1)
    have e0 : x1' = .normal := f0
    subst e0
    have hg1 : ψ q = some (cc.l, K0) := f2.more _ _ hg
    obtain ⟨rec1, r1, r2, r3, r4⟩ := WR.loopPut f3 hm2 hg1
    obtain ⟨hw2, hs2⟩ := r4 .busy pd2
    refine ⟨_, run_beginRound r1 r2, ?_⟩
    have hw2' : WR ψ (⟨B.b, cs⟩ : Bse hd.y.s) (hp2.m.set q (.loop .busy pd2)) hp2.nx (w1.putObj cc.l (.loop { rec1 with state := .busy })) := by
      have e : ({ rec1 with state := LoopState.busy } : Loop) = { rec1 with state := .busy, pending := pd2 } := by rw [← r3]
      rw [e]
      exact hw2
    have hs2' : Step ψ hp2.m hp2.nx w1 ψ (hp2.m.set q (.loop .busy pd2)) hp2.nx (w1.putObj cc.l (.loop { rec1 with state := .busy })) := by
      have e : ({ rec1 with state := LoopState.busy } : Loop) = { rec1 with state := .busy, pending := pd2 } := by rw [← r3]
      rw [e]
      exact hs2
    refine hBw ψ ⟨B.b, cs⟩ a1 _ (g1.more f2.more) f1 hw2' _ (fun χ a3 w3 x3' e0 e1 e2 e3 => ?_) (some cc.l) (.inr hdf.2)
    have hg3 : χ q = some (cc.l, K0) := e2.more _ _ hg1
    obtain ⟨rec3, s1, s2, s3, s4⟩ := WR.loopPut e3 hm3 hg3
    obtain ⟨hw4, hs4⟩ := s4 st' pend'
    refine hpost χ x3' e0 cc.l _ a3 w3 ⟨_, _, run_endRound jump s1, .bool jump.isNone, rfl, χ, hv χ, ?_, ?_⟩
    · have hs : StH φ hp w χ (.mk (hp3.m.set q (.loop st' pend')) hp3.nx) (w3.putObj cc.l (.loop { rec3 with state := st', pending := pend' })) := (f2.trans (hs2'.trans e2)).trans hs4
      rw [hst.1, hst.2] at hs
      rw [hst.1, hst.2]
      exact hs
    · have hs : StH φ hp w χ (.mk (hp3.m.set q (.loop st' pend')) hp3.nx) (w3.putObj cc.l (.loop { rec3 with state := st', pending := pend' })) := (f2.trans (hs2'.trans e2)).trans hs4
      have hw5 := back hs hw4
      rw [hst.1, hst.2] at hw5
      rw [hst.1, hst.2]
      exact hw5
  cases x2 with
  | normal => exact ⟨_, _, hr2, all _ _ _ none (fun ψ x' f l R a w h => by have : x' = .normal := f; subst this; exact h) ⟨rfl, rfl⟩ (fun _ => rfl)⟩
  | ret => exact ⟨_, _, hr2, all _ _ _ (some .ret) (fun ψ x' f l R a w h => by have : x' = .ret := f; subst this; exact h) ⟨rfl, rfl⟩ (fun _ => rfl)⟩
  | exit i => exact ⟨_, _, hr2, all _ _ _ (some (.exit i)) (fun ψ x' f l R a w h => by have : x' = .exit i := f; subst this; exact h) ⟨rfl, rfl⟩ (fun _ => rfl)⟩
  | pan v => cases hr2
theorem jumpM_some {pend : Option Code} {k : Ex → R} {x : AV × HP} (h : jumpM pend k = some x) : (pend = none ∧ k .normal = some x) ∨ (pend = some .ret ∧ k .ret = some x) ∨ ∃ i, pend = some (.exit i) ∧ k (.exit i) = some x := by
  unfold jumpM at h
  split at h
  · exact .inl ⟨rfl, h⟩
  · exact .inr (.inl ⟨rfl, h⟩)
  · exact .inr (.inr ⟨_, rfl, h⟩)
  · cases h
theorem rangeM_ok {g : Operand} {ps : Array Tmp} {as' bd : Code} {mA mB : CM} (hA : CMOk P G dt n lo as' mA) (hB : CMOk P G dt n lo bd mB) (hdf : noDf as' = true ∧ noDf bd = true) :
    CMOk P G dt n lo (.rangeFunc g ps as' bd) (rangeM dt n lo ps as' bd (opd G dt n [] g) mA mB) := by
  intro hd hok t hp k r hr
  obtain ⟨f, first, cap, hf, h1⟩ := AV.on_fn_some (show ((opd G dt n [] g).run [] t).on_fn _ = some r from hr)
  split at h1
  rotate_left
  · cases h1
  rename_i fid
  split at h1
  rotate_left
  · cases h1
  rename_i he
  split at h1
  rename_i m nx
  split at h1
  rotate_left
  · cases h1
  rename_i hl1 hl2
  have hent := hok.2.2 fid he
  generalize hsd : (⟨inc nx, dt, n, lo, t.set (path dt n) .u, ps, as', bd⟩ : Site) = site at h1
  generalize hyd : (⟨site :: hd.y.s, true, fun q args hp k => match sameId q (inc nx) with
      | true => roundM dt n lo ps.toList mA mB hd (inc nx) (t.set (path dt n) .u) args hp k
      | false => hd.y.f q args hp k⟩ : Ys) = y at h1
  have hys : y.s = site :: hd.y.s := by rw [← hyd]
  have hy : YOk P G y := by
    subst hyd
    intro q args hp k res h
    have h' : (match sameId q (inc nx) with
      | true => roundM dt n lo ps.toList mA mB hd (inc nx) (t.set (path dt n) .u) args hp k
      | false => hd.y.f q args hp k) = some res := h
    split at h'
    · rename_i hs
      have := sameId_eq hs
      subst this hsd
      exact roundM_ok hA hB hdf hok h'
    · obtain ⟨v, hp', h1, h2⟩ := hok.1 q args hp k res h'
      refine ⟨v, hp', h1, fun φ B w ars g g1 hw hargs hg => ?_⟩
      obtain ⟨cc, cs, hcs, hsite, hw0⟩ := WR.tail hw
      obtain ⟨f, tmps, as, bd, e1, e2⟩ := h2 φ ⟨B.b, cs⟩ w ars g g1 hw0 hargs hg
      refine ⟨f, tmps, as, bd, e1, RoundIn.mono e2 fun e w' ⟨v', e3, ψ, hv, hs, hw'⟩ => ⟨v', e3, ψ, hv, hs, ?_⟩⟩
      have h3 : WR ψ (⟨B.b, cc :: cs⟩ : Bse (site :: hd.y.s)) hp'.m hp'.nx w' := WR.grow hw' (hsite.mono hs.more hs.lk)
      have h4 : B = ⟨B.b, cc :: cs⟩ := by rw [← hcs]
      rw [h4]
      exact h3
  rcases (hok.2.1 y hy).1 fid _ _ _ _ r h1 with ⟨v, hp2, h2, h3⟩ | ⟨v, hp2, h2, h3⟩
  rotate_left
  · cases h2
  obtain ⟨st, pd, hm2, h4⟩ := onLoop_some h2
  have key : st ≠ .busy → ∀ (x : Ex) (X : Exit), (∀ ψ, ExR ψ x X) → ((pd = none ∧ X = .normal) ∨ ∃ c, pd = some c ∧ ∀ (Q : Exit → Act → World → Prop) a w, Q X a w → c.wpIn (Fw none) 0 P Q a w) →
      AfterC P G dt n lo hd t (.mk m nx) x (t.set (path dt n) (.cons (.mp nx) (getT (path dt n) t))) (.mk (hp2.m.set (inc nx) (.loop .exhausted pd)) hp2.nx) fun Q a w => ∀ ro, ro = none ∨ noDf (.rangeFunc g ps as' bd) = true → (Code.rangeFunc g ps as' bd).wpIn (Fw ro) 0 P Q a w := by
    intro hst x X hX hj φ B a w g1 g2 g3 Q hQ ro hro
    have hro' : ro = none := hro.resolve_right (by simp [noDf])
    subst hro'
    have hfv := opd_ok (lo := lo) g1 g2 (EnvR.nil φ [] a.tmps) g
    rw [hf] at hfv
    obtain ⟨us, ys, e1, v1, v2⟩ := hfv
    have e1' : a.eval g = .func (.func fid) us ys := e1
    have v1' : VL φ first us.toList := v1
    have v2' : VL φ cap ys.toList := v2
    refine wpIn_rangeFunc fun fn _ => ?_
    generalize hrec0 : ({ state := .ready, pending := none, fn, tmps := a.tmps, params := ps, assign := as', body := bd, defers := w.heap.size } : Loop) = rec0
    have g3' : WR φ B m nx w := g3
    obtain ⟨s1, p1⟩ := WR.new g3' hl1 (x := .dfd true) (o := .deferred (some [])) (K := (0, 0)) rfl (.alloc _ _)
    obtain ⟨s2, p2⟩ := WR.new s1 hl2 (x := .loop .ready none) (o := .loop rec0) (K := (0, 0)) ⟨rec0, rfl, by rw [← hrec0], by rw [← hrec0]⟩ (.alloc _ _)
    have hsz1 : (w.alloc (.deferred (some []))).heap.size = w.heap.size + 1 := by simp
    rw [hsz1] at s2 p2
    generalize hφ' : ext (ext φ nx (w.heap.size, 0, 0)) (inc nx) (w.heap.size + 1, 0, 0) = φ' at s2 p2
    generalize hw1 : (w.alloc (.deferred (some []))).alloc (.loop rec0) = w1 at s2 p2
    have hgr : φ' (inc nx) = some (w.heap.size + 1, 0, 0) := by rw [← hφ']; exact ext_same _ _ _
    have hgd : φ' nx = some (w.heap.size, 0, 0) := p2.more _ _ (ext_same _ _ _)
    have hstep := p1.trans p2
    have hsite : SiteR φ' w1 site ⟨w.heap.size + 1, a.tmps⟩ := by
      have ne : ∀ k, k < n → path dt k ≠ path dt n := fun k hk e => Nat.ne_of_lt hk (path_inj dt k n (Nat.lt_trans hk g2.cap) g2.cap e)
      have old : ∀ d, d < n → ((t.set (path dt n) .u).get (path dt d)).getD .u = getT (path dt d) t := fun d hd' => by
        rw [T4.get_set_other _ _ _ _ (by rw [path_len, path_len]) (ne d hd'), ← getT_get]
      subst hsd
      refine ⟨⟨_, hgr⟩, ⟨rec0, ?_, by rw [← hrec0], by rw [← hrec0], by rw [← hrec0], by rw [← hrec0]⟩, g2.sz, g2.cap, fun d hd' => ?_, fun d hd' hl => ?_, ?_⟩
      · rw [← hw1]
        have := World.alloc_heap_new (w.alloc (.deferred (some []))) (.loop rec0)
        rwa [hsz1] at this
      · show VR φ' (((t.set (path dt n) .u).get (path dt d)).getD .u) (a.tmps.getD d undef)
        rw [old d hd']
        exact (g2.at' d hd').more hstep.more
      · show ((t.set (path dt n) .u).get (path dt d)).getD .u = .u
        rw [old d hd']
        exact g2.lo d hd' hl
      · show ((t.set (path dt n) .u).get (path dt n)).getD .u = .u
        rw [T4.get_set_same]
        rfl
    have hargs : VL φ' (first.app (.cons (.yd (inc nx)) cap)) ((us ++ (#[Value.func (.yield (w.heap.size + 1)) #[] #[]] : Array Value)) ++ ys).toList := by
      rw [Array.toList_append, Array.toList_append, List.append_assoc]
      exact VL.app (v1'.more hstep.more) ⟨_, _, rfl, ⟨_, hgr, rfl⟩, v2'.more hstep.more⟩
    have hcall := h3 φ' (hys ▸ (⟨B.b, ⟨w.heap.size + 1, a.tmps⟩ :: B.cs⟩ : Bse (site :: hd.y.s))) w1 _ (g1.more hstep.more) (by
      subst hyd
      exact WR.grow s2 hsite) hargs
    refine ⟨w.heap.size + 1, [{ target := .collected w.heap.size, args := #[] }], w1, { target := .fn (.func fid) ys, args := us ++ (#[Value.func (.yield (w.heap.size + 1)) #[] #[]] : Array Value) }, w1, fid, (us ++ (#[Value.func (.yield (w.heap.size + 1)) #[] #[]] : Array Value)) ++ ys, w1, ?_, ?_, fun _ _ => trivial, ?_, (fun hh => by cases hh), ?_⟩
    · rw [← hw1, ← hrec0]; exact run_enterLoop_outer fn a.tmps ps as' bd
    · simp only [rangeCall, resolve, e1', Deferred.ofValue, Sem.run_bind, Sem.run_pure, Result.andThen_ok]
      rw [show (#[Operand.const (Value.func (.yield (w.heap.size + 1)) #[] #[])] : Array Operand).map a.eval = #[Value.func (.yield (w.heap.size + 1)) #[] #[]] from by simp [Act.eval]]
    · exact hent _ _
    · have hcalls : Calls P fid ((us ++ (#[Value.func (.yield (w.heap.size + 1)) #[] #[]] : Array Value)) ++ ys) w1 fun e w' => ∃ v', e = .returned v' ∧ ∃ ψ, StH φ' (.mk ((m.set nx (.dfd true)).set (inc nx) (.loop .ready none)) (inc (inc nx))) w1 ψ hp2 w' ∧ WH ψ B hp2 w' := by
        rcases hcall with ⟨_, c2⟩ | ⟨v', w', c1, _⟩
        · refine c2.mono fun e w' ⟨v', e2, ψ, hv, hs, hw'⟩ => ⟨v', e2, ψ, hs, ?_⟩
          subst hyd
          obtain ⟨cc, cs, hcs, _, hw0⟩ := WR.tail hw'
          have hcs' : (⟨w.heap.size + 1, a.tmps⟩ : Conc) :: B.cs = cc :: cs := hcs
          have hcs2 : B.cs = cs := (List.cons.inj hcs').2
          have hB : B = ⟨B.b, cs⟩ := by rw [← hcs2]
          rw [hB]
          exact hw0
        · rw [hent _ _] at c1; cases c1
      refine callsIn_of (hcalls.mono fun e w' ⟨v', e2, ψ, hs, hw'⟩ => ?_)
      subst e2
      have hgr' : ψ (inc nx) = some (w.heap.size + 1, 0, 0) := hs.more _ _ hgr
      obtain ⟨rec, r1, r2, r3, r4⟩ := WR.loopPut hw' hm2 hgr'
      obtain ⟨hw4, hs4⟩ := r4 .exhausted pd
      have hend := run_endLoop (P := P) r1 (by rw [r2]; exact hst)
      refine ⟨rec.pending, _, hend, ?_⟩
      rw [r3]
      have hq := hQ ψ _ _ X (hX ψ) (FR.mark (g2.more (hstep.more.trans hs.more)) (hs.more _ _ hgd)) ((hstep.trans hs).trans hs4) hw4
      rcases hj with ⟨e6, e7⟩ | ⟨c, e6, hc⟩
      · rw [e7] at hq
        rw [e6] at hq ⊢
        exact hq
      · rw [e6] at hq ⊢
        exact hc Q _ _ hq
  have fin : st ≠ .busy → jumpM pd (fun x => k x (t.set (path dt n) (.cons (.mp nx) (getT (path dt n) t))) (.mk (hp2.m.set (inc nx) (.loop .exhausted pd)) hp2.nx)) = some r → ∃ x t' hp', k x t' hp' = some r ∧ AfterC P G dt n lo hd t (.mk m nx) x t' hp' fun Q a w => ∀ ro, ro = none ∨ noDf (.rangeFunc g ps as' bd) = true → (Code.rangeFunc g ps as' bd).wpIn (Fw ro) 0 P Q a w := by
    intro hst h5
    rcases jumpM_some h5 with ⟨e, h6⟩ | ⟨e, h6⟩ | ⟨i, e, h6⟩
    · exact ⟨_, _, _, h6, key hst .normal .normal (fun _ => rfl) (.inl ⟨e, rfl⟩)⟩
    · exact ⟨_, _, _, h6, key hst .ret .ret (fun _ => rfl) (.inr ⟨_, e, fun Q a w hq => wpIn_ret hq⟩)⟩
    · exact ⟨_, _, _, h6, key hst (.exit i) (.exit i) (fun _ => rfl) (.inr ⟨_, e, fun Q a w hq => wpIn_exit hq⟩)⟩
  cases st with
  | busy => cases h4
  | ready => exact fin nofun h4
  | done => exact fin nofun h4
  | exhausted => exact fin nofun h4
theorem codeM_ok (hop : ∀ ds o q, opM ds o = some q → OmOk P G dt n ds o q) (hcm : ∀ ds o F, cmM ds o = some F → ComOk P G dt n ds o F) (hrg : ∀ id ops m, regM ops = some m → RgOk P G dt n lo id ops m) : ∀ c : Code, CMOk P G dt n lo c (codeM G dt n lo opM cmM regM fuel c) := by
  intro c
  induction c with
  | skip => exact fun hd hok t hp k r hr => ⟨.normal, t, hp, hr, fun φ B a w g1 g2 g3 Q hQ ro hro => wpIn_skip (hQ φ a w _ rfl g2 Step.refl g3)⟩
  | label l => exact fun hd hok t hp k r hr => ⟨.normal, t, hp, hr, fun φ B a w g1 g2 g3 Q hQ ro hro => wpIn_label (hQ φ a w _ rfl g2 Step.refl g3)⟩
  | region id ops draw =>
    intro hd hok t hp k r hr
    cases draw with
    | false =>
      obtain ⟨x, t', hp', h1, h2⟩ := opsM_ok hop hcm ops hok (show (opsM G dt n lo opM cmM ops ops.toList []).run hd [] t hp k = some r from hr)
      exact ⟨x, t', hp', h1, fun φ B a w g1 g2 g3 Q hQ ro hro => aw_region (h2 φ B a w g1 g2 g3 Q hQ ro hro)⟩
    | true =>
      unfold codeM at hr
      cases hm : regM ops with
      | none => simp only [hm] at hr; cases hr
      | some m =>
        simp only [hm] at hr
        obtain ⟨x, t', hp', h1, h2⟩ := hrg id ops m hm hd hok t hp _ r hr
        exact ⟨x, t', hp', h1, fun φ B a w g1 g2 g3 Q hQ ro hro => h2 φ B a w g1 g2 g3 Q hQ ro hro⟩
  | seq a b iha ihb =>
    intro hd hok t hp k r hr
    obtain ⟨x1, t1, hp1, h1, h2⟩ := iha hd hok t hp _ r hr
    have sp : ∀ {ro : Option Nat}, ro = none ∨ noDf (.seq a b) = true → (ro = none ∨ noDf a = true) ∧ (ro = none ∨ noDf b = true) := fun h => by
      rcases h with h | h
      · exact ⟨.inl h, .inl h⟩
      · simp only [noDf, Bool.and_eq_true] at h; exact ⟨.inr h.1, .inr h.2⟩
    have out : ∀ x1', x1' ≠ .normal → x1 = x1' → k x1' t1 hp1 = some r → ∃ x t' hp', k x t' hp' = some r ∧
        AfterC P G dt n lo hd t hp x t' hp' fun Q a' w => ∀ ro, ro = none ∨ noDf (.seq a b) = true → (Code.seq a b).wpIn (Fw ro) 0 P Q a' w := by
      intro x1' hne e hk
      subst e
      exact ⟨x1, t1, hp1, hk, fun φ B a w g1 g2 g3 Q hQ ro hro => wpIn_seq (h2 φ B a w g1 g2 g3 _ (fun ψ a' w' x' f0 f1 f2 f3 => then_of (by rcases f0.to with ⟨e, _⟩ | ⟨_, e⟩; exact absurd e hne; exact e) (hQ ψ a' w' x' f0 f1 f2 f3)) ro (sp hro).1)⟩
    cases x1 with
    | normal =>
      obtain ⟨x, t', hp', h3, h4⟩ := ihb hd hok t1 hp1 k r h1
      refine ⟨x, t', hp', h3, fun φ B a w g1 g2 g3 Q hQ ro hro => wpIn_seq (h2 φ B a w g1 g2 g3 _ (fun ψ a' w' x' f0 f1 f2 f3 => ?_) ro (sp hro).1)⟩
      have : x' = .normal := f0
      subst this
      exact h4 ψ B a' w' (g1.more f2.more) f1 f3 Q (fun χ a'' w'' x'' e0 e1 e2 e3 => hQ χ a'' w'' x'' e0 e1 (f2.trans e2) e3) ro (sp hro).2
    | exit i => exact out (.exit i) nofun rfl h1
    | ret => exact out .ret nofun rfl h1
    | pan v => exact out (.pan v) nofun rfl h1
  | cond c a b iha ihb =>
    intro hd hok t hp k r hr
    obtain ⟨x, hx, h1⟩ := AV.on_b_some hr
    have sp : ∀ {ro : Option Nat}, ro = none ∨ noDf (.cond c a b) = true → (ro = none ∨ noDf a = true) ∧ (ro = none ∨ noDf b = true) := fun h => by
      rcases h with h | h
      · exact ⟨.inl h, .inl h⟩
      · simp only [noDf, Bool.and_eq_true] at h; exact ⟨.inr h.1, .inr h.2⟩
    have hc : ∀ φ (a : Act), Glo G φ → FR φ dt n lo t a → a.eval c = .bool x := fun φ a g1 g2 => by
      have := opd_ok (lo := lo) g1 g2 (EnvR.nil φ [] _) c
      rw [hx] at this
      exact this
    cases x with
    | true =>
      obtain ⟨y, t', hp', h3, h4⟩ := iha hd hok t hp k r h1
      exact ⟨y, t', hp', h3, fun φ B a w g1 g2 g3 Q hQ ro hro => wpIn_cond_true (hc φ a g1 g2) (h4 φ B a w g1 g2 g3 Q hQ ro (sp hro).1)⟩
    | false =>
      obtain ⟨y, t', hp', h3, h4⟩ := ihb hd hok t hp k r h1
      exact ⟨y, t', hp', h3, fun φ B a w g1 g2 g3 Q hQ ro hro => wpIn_cond_false (hc φ a g1 g2) (h4 φ B a w g1 g2 g3 Q hQ ro (sp hro).2)⟩
  | block i a iha =>
    intro hd hok t hp k r hr
    obtain ⟨x1, t1, hp1, h1, h2⟩ := iha hd hok t hp _ r hr
    cases x1 with
    | normal => exact ⟨.normal, t1, hp1, h1, fun φ B a w g1 g2 g3 Q hQ ro hro => wpIn_block (h2 φ B a w g1 g2 g3 _ (fun ψ a' w' x' f0 f1 f2 f3 => by have : x' = .normal := f0; subst this; exact hQ ψ a' w' _ rfl f1 f2 f3) ro hro)⟩
    | exit j =>
      by_cases hj : j = i
      · subst hj
        have h1' : k .normal t1 hp1 = some r := by simpa using h1
        exact ⟨.normal, t1, hp1, h1', fun φ B a w g1 g2 g3 Q hQ ro hro => wpIn_block (h2 φ B a w g1 g2 g3 _ (fun ψ a' w' x' f0 f1 f2 f3 => by
          have : x' = .exit j := f0
          subst this
          show (if j = j then Q .normal a' w' else Q (.exit j) a' w')
          rw [if_pos rfl]
          exact hQ ψ a' w' _ rfl f1 f2 f3) ro hro)⟩
      · have hb : Nat.beq j i = false := by rw [← Bool.not_eq_true]; exact fun e => hj (Nat.eq_of_beq_eq_true e)
        have h1' : k (.exit j) t1 hp1 = some r := by
          have : (Bool.rec (k (.exit j) t1 hp1) (k .normal t1 hp1) (Nat.beq j i) : R) = some r := h1
          rw [hb] at this
          exact this
        exact ⟨.exit j, t1, hp1, h1', fun φ B a w g1 g2 g3 Q hQ ro hro => wpIn_block (h2 φ B a w g1 g2 g3 _ (fun ψ a' w' x' f0 f1 f2 f3 => by
          have : x' = .exit j := f0
          subst this
          show (if j = i then Q .normal a' w' else Q (.exit j) a' w')
          rw [if_neg hj]
          exact hQ ψ a' w' _ rfl f1 f2 f3) ro hro)⟩
    | ret => exact ⟨.ret, t1, hp1, h1, fun φ B a w g1 g2 g3 Q hQ ro hro => wpIn_block (h2 φ B a w g1 g2 g3 _ (fun ψ a' w' x' f0 f1 f2 f3 => by have : x' = .ret := f0; subst this; exact hQ ψ a' w' _ rfl f1 f2 f3) ro hro)⟩
    | pan v => exact ⟨.pan v, t1, hp1, h1, fun φ B a w g1 g2 g3 Q hQ ro hro => wpIn_block (h2 φ B a w g1 g2 g3 _ (fun ψ a' w' x' f0 f1 f2 f3 => by obtain ⟨v', e, f0'⟩ := f0; subst e; exact hQ ψ a' w' _ ⟨v', rfl, f0'⟩ f1 f2 f3) ro hro)⟩
  | loop a iha =>
    intro hd hok t hp k r hr
    obtain ⟨x, t', hp', h1, h2⟩ := loop_ok iha hd hok fuel t hp k r hr
    exact ⟨x, t', hp', h1, fun φ B a w g1 g2 g3 Q hQ ro hro => wp_of_lw (h2 φ B a w g1 g2 g3 Q hQ ro hro)⟩
  | scope a iha =>
    intro hd hok t hp k r hr
    obtain ⟨x, t', hp', h1, h2⟩ := iha hd hok t hp k r hr
    exact ⟨x, t', hp', h1, fun φ B a w g1 g2 g3 Q hQ ro hro => wpIn_scope_straight (h2 φ B a w g1 g2 g3 _ (fun ψ a' w' x' f0 f1 f2 f3 => by
      have := hQ ψ a' w' x' f0 f1 f2 f3
      cases x with
      | normal => have e : x' = .normal := f0; subst e; exact this
      | exit i => have e : x' = .exit i := f0; subst e; exact this
      | ret => have e : x' = .ret := f0; subst e; exact this
      | pan v => obtain ⟨v', e, _⟩ := f0; subst e; exact this) ro hro)⟩
  | exit i => exact fun hd hok t hp k r hr => ⟨.exit i, t, hp, hr, fun φ B a w g1 g2 g3 Q hQ ro hro => wpIn_exit (hQ φ a w _ rfl g2 Step.refl g3)⟩
  | ret => exact fun hd hok t hp k r hr => ⟨.ret, t, hp, hr, fun φ B a w g1 g2 g3 Q hQ ro hro => wpIn_ret (hQ φ a w _ rfl g2 Step.refl g3)⟩
  | rangeFunc f ps ars b iha ihb =>
    intro hd hok t hp k r hr
    unfold codeM at hr
    cases hdf : noDf ars && noDf b with
    | false => simp only [hdf] at hr; cases hr
    | true =>
      simp only [hdf] at hr
      simp only [Bool.and_eq_true] at hdf
      exact rangeM_ok iha ihb hdf hd hok t hp k r hr
  | goto l => exact fun hd hok t hp k r hr => by cases hr
  | refuse s => exact fun hd hok t hp k r hr => by cases hr
end
end Go.Proofs.YtknjkljigmepjaaGreatDoor.Clo
end
section
namespace Go.Proofs.YtknjkljigmepjaaGreatDoor.Clo
open Go.RowKit
set_option linter.unusedVariables false
set_option linter.unusedSimpArgs false
variable [Tabs]
section
variable {P : Program} {G dt n : Nat} {ds : List (Option Nat)} {o : Oper}
theorem move_ok {x : Operand} (ho : o.op = .move x ∨ o.op = .assign x) : PureOk P G dt n ds o (fun e t hp k => k ((opd G dt n ds x).run e t) hp) :=
  .pure fun e t hp k r hr => ⟨_, hr, fun φ a w hx => ⟨a.eval x, by unfold execOp; rcases ho with ho | ho <;> rw [ho] <;> rfl, hx x (by rcases ho with ho | ho <;> (rw [ho]; simp [Op.operands, Call.operands]))⟩⟩
theorem pick_ok {c x y : Operand} (ho : o.op = .pick c x y) : PureOk P G dt n ds o (fun e t hp k => ((opd G dt n ds c).run e t).on_b fun b => Bool.rec (k ((opd G dt n ds y).run e t) hp) (k ((opd G dt n ds x).run e t) hp) b) :=
  .pure fun e t hp k r hr => by
    obtain ⟨b, hb, h1⟩ := AV.on_b_some hr
    cases b with
    | true => exact ⟨_, h1, fun φ a w hx => ⟨a.eval x, by
        have hc : a.eval c = .bool true := by have := hx c (by rw [ho]; simp [Op.operands, Call.operands]); rw [hb] at this; exact this
        unfold execOp; rw [ho]; simp [hc, asBool], hx x (by rw [ho]; simp [Op.operands, Call.operands])⟩⟩
    | false => exact ⟨_, h1, fun φ a w hx => ⟨a.eval y, by
        have hc : a.eval c = .bool false := by have := hx c (by rw [ho]; simp [Op.operands, Call.operands]); rw [hb] at this; exact this
        unfold execOp; rw [ho]; simp [hc, asBool], hx y (by rw [ho]; simp [Op.operands, Call.operands])⟩⟩
def ltI : Int → Int → Bool
  | .ofNat a, .ofNat b => Nat.blt a b
  | .ofNat _, .negSucc _ => false
  | .negSucc _, .ofNat _ => true
  | .negSucc a, .negSucc b => Nat.blt b a
theorem ltI_eq (x y : Int) : ltI x y = decide (x < y) := by
  rw [Bool.eq_iff_iff, decide_eq_true_eq]
  cases x <;> cases y <;> simp only [ltI, Nat.blt_eq, Bool.false_eq_true, true_iff, false_iff, Int.ofNat_eq_natCast] <;> omega
def eqI : Int → Int → Bool
  | .ofNat a, .ofNat b => Nat.beq a b
  | .negSucc a, .negSucc b => Nat.beq a b
  | _, _ => false
theorem eqI_eq (x y : Int) : eqI x y = (x == y) := by
  rw [Bool.eq_iff_iff, beq_iff_eq]
  cases x <;> cases y <;> simp only [eqI, Nat.beq_eq, Bool.false_eq_true, false_iff, Int.ofNat_eq_natCast, Int.negSucc_inj] <;> omega
def topI : IntKind → Nat
  | .i8 => 127 | .i16 => 32767 | .i32 => 2147483647 | .i64 => 9223372036854775807
  | .u8 => 255 | .u16 => 65535 | .u32 => 4294967295 | .u64 => 18446744073709551615
def wrapF (k : IntKind) (x : Int) : Int := match x with
  | .ofNat m => match Nat.ble m (topI k) with
    | true => .ofNat m
    | false => k.wrap x
  | _ => k.wrap x
theorem wrapF_eq (k : IntKind) (x : Int) : wrapF k x = k.wrap x := by
  unfold wrapF
  split
  · rename_i m
    split
    · rename_i h
      have h' : m ≤ topI k := Nat.le_of_ble_eq_true h
      cases k <;> simp only [topI] at h' <;> simp [IntKind.wrap, IntKind.bits, IntKind.signed] <;> omega
    · rfl
  · rfl
def intBin (op : BinOp) (k : IntKind) (x y : Int) : Option AV := match op with
  | .add => some (.i k (wrapF k (Int.add x y)))
  | .sub => some (.i k (wrapF k (Int.sub x y)))
  | .mul => some (.i k (wrapF k (Int.mul x y)))
  | .quo => match eqI y 0 with | true => none | false => some (.i k (wrapF k (x.tdiv y)))
  | .rem => match eqI y 0 with | true => none | false => some (.i k (x.tmod y))
  | .and => some (.i k (k.wrap ((BitVec.ofInt k.bits x &&& BitVec.ofInt k.bits y).toNat)))
  | .or => some (.i k (k.wrap ((BitVec.ofInt k.bits x ||| BitVec.ofInt k.bits y).toNat)))
  | .xor => some (.i k (k.wrap ((BitVec.ofInt k.bits x ^^^ BitVec.ofInt k.bits y).toNat)))
  | .andNot => some (.i k (k.wrap ((BitVec.ofInt k.bits x &&& ~~~BitVec.ofInt k.bits y).toNat)))
  | .eql => some (.b (eqI x y))
  | .neq => some (.b (!eqI x y))
  | .lss => some (.b (ltI x y))
  | .leq => some (.b (!ltI y x))
  | .gtr => some (.b (ltI y x))
  | .geq => some (.b (!ltI x y))
  | _ => none
theorem intBin_ok {op : BinOp} {k : IntKind} {x y : Int} {v : AV} (h : intBin op k x y = some v) (φ : Id → Option Plc) (t : TypeId) (w : World) : ∃ v', (binOp op t (.int k x) (.int k y)).run P w = .ok v' w ∧ VR φ v v' := by
  have hle : ∀ a b : Int, (!ltI b a) = decide (a ≤ b) := fun a b => by rw [ltI_eq, Bool.eq_iff_iff]; simp
  cases op <;> simp only [intBin] at h <;> try (simp only [Option.some.injEq] at h; subst h)
  case quo =>
    split at h
    · cases h
    · rename_i hy
      simp only [Option.some.injEq] at h
      subst h
      have hy' : ¬ y = 0 := fun e => by subst e; simp [eqI] at hy
      exact ⟨.int k (k.wrap (x.tdiv y)), by simp [binOp, Op.intDiv, hy'], by rw [wrapF_eq]; rfl⟩
  case rem =>
    split at h
    · cases h
    · rename_i hy
      simp only [Option.some.injEq] at h
      subst h
      have hy' : ¬ y = 0 := fun e => by subst e; simp [eqI] at hy
      exact ⟨.int k (x.tmod y), by simp [binOp, Op.intDiv, hy'], rfl⟩
  case shl => cases h
  case shr => cases h
  case and => exact ⟨.int k (k.wrap ((BitVec.ofInt k.bits x &&& BitVec.ofInt k.bits y).toNat)), by cases k <;> rfl, rfl⟩
  case or => exact ⟨.int k (k.wrap ((BitVec.ofInt k.bits x ||| BitVec.ofInt k.bits y).toNat)), by cases k <;> rfl, rfl⟩
  case xor => exact ⟨.int k (k.wrap ((BitVec.ofInt k.bits x ^^^ BitVec.ofInt k.bits y).toNat)), by cases k <;> rfl, rfl⟩
  case andNot => exact ⟨.int k (k.wrap ((BitVec.ofInt k.bits x &&& ~~~BitVec.ofInt k.bits y).toNat)), by cases k <;> rfl, rfl⟩
  all_goals
    refine ⟨_, by simp [binOp, Op.intArith, Op.intBits, Op.intCmp]; rfl, ?_⟩
    first
      | (rw [wrapF_eq]; rfl)
      | rfl
      | (rw [eqI_eq]; rfl)
      | (rw [ltI_eq]; rfl)
      | (rw [hle]; rfl)
end
end Go.Proofs.YtknjkljigmepjaaGreatDoor.Clo
end
section
namespace Go.Proofs.YtknjkljigmepjaaGreatDoor.Clo
open Go.RowKit
set_option linter.unusedVariables false
set_option linter.unusedSimpArgs false
variable [Tabs]
def B256 (l : List Nat) : Prop := ∀ x ∈ l, x < 256
theorem bytes_size (l : List Nat) : (bytesOf l).size = l.length := by
  show (l.map UInt8.ofNat).toArray.size = _
  simp
theorem bytes_toList (l : List Nat) : (bytesOf l).toList = l.map UInt8.ofNat := by
  rw [ByteArray.toList_eq]
  unfold bytesOf
  simp
theorem bytes_app (l m : List Nat) : bytesOf (l ++ m) = bytesOf l ++ bytesOf m := by
  apply ByteArray.ext
  apply Array.ext'
  simp [bytesOf]
theorem bytes_extract (l : List Nat) (i j : Nat) : (bytesOf l).extract i j = bytesOf ((l.drop i).take (j - i)) := by
  apply ByteArray.ext
  apply Array.ext'
  simp [bytesOf, List.map_drop, List.map_take]
theorem bytes_get (l : List Nat) (i : Nat) : (bytesOf l)[i]? = (l[i]?).map UInt8.ofNat := by
  by_cases h : i < l.length
  · rw [getElem?_pos _ _ (by rw [bytes_size]; exact h), List.getElem?_eq_getElem h]
    simp [bytesOf, ByteArray.getElem_eq_getElem_data]
  · rw [getElem?_neg _ _ (by rw [bytes_size]; exact h), List.getElem?_eq_none (by omega)]
    rfl
theorem ofNat_inj {x y : Nat} (hx : x < 256) (hy : y < 256) (h : UInt8.ofNat x = UInt8.ofNat y) : x = y := by
  have := congrArg UInt8.toNat h
  simpa [UInt8.toNat_ofNat', Nat.mod_eq_of_lt hx, Nat.mod_eq_of_lt hy] using this
noncomputable def eqL (a : List Nat) : List Nat → Bool :=
  List.rec (motive := fun _ => List Nat → Bool) (fun b => List.rec true (fun _ _ _ => false) b) (fun x _ ih b => List.rec false (fun y r _ => Bool.rec false (ih r) (Nat.beq x y)) b) a
theorem eqL_iff : ∀ (a b : List Nat), eqL a b = true ↔ a = b
  | [], [] => by simp [eqL]
  | [], y :: b => by simp [eqL]
  | x :: a, [] => by simp [eqL]
  | x :: a, y :: b => by
    show (Bool.rec false (eqL a b) (Nat.beq x y) : Bool) = true ↔ _
    cases h : Nat.beq x y with
    | true => have := Nat.eq_of_beq_eq_true h; subst this; simp [eqL_iff a b]
    | false =>
      have : x ≠ y := fun e => by subst e; rw [Nat.beq_refl] at h; cases h
      simp [this]
theorem eqL_bytes {a b : List Nat} (ha : B256 a) (hb : B256 b) : ((bytesOf a).toList == (bytesOf b).toList) = eqL a b := by
  rw [bytes_toList, bytes_toList, Bool.eq_iff_iff, beq_iff_eq, eqL_iff]
  constructor
  · intro h
    apply List.ext_getElem?
    intro i
    have hi := congrArg (·[i]?) h
    simp only [List.getElem?_map] at hi
    cases hx : a[i]? with
    | none => rw [hx] at hi; cases hy : b[i]? with
      | none => rfl
      | some y => rw [hy] at hi; cases hi
    | some x =>
      rw [hx] at hi
      cases hy : b[i]? with
      | none => rw [hy] at hi; cases hi
      | some y =>
        rw [hy] at hi
        simp only [Option.map_some, Option.some.injEq] at hi
        rw [ofNat_inj (ha x (List.mem_of_getElem? hx)) (hb y (List.mem_of_getElem? hy)) hi]
  · intro h; rw [h]
def lessL : List Nat → List Nat → Bool
  | _, [] => false
  | [], _ :: _ => true
  | a :: x, b :: y => match Nat.blt a b with
    | true => true
    | false => match Nat.beq a b with
      | true => lessL x y
      | false => false
theorem lessL_bytes : ∀ {a b : List Nat}, B256 a → B256 b → Op.bytesLess (bytesOf a).toList (bytesOf b).toList = lessL a b := by
  intro a b ha hb
  rw [bytes_toList, bytes_toList]
  induction a generalizing b with
  | nil => cases b <;> rfl
  | cons x a ih =>
    cases b with
    | nil => rfl
    | cons y b =>
      have hx := ha x (by simp)
      have hy := hb y (by simp)
      have h1 := ih (b := b) (fun z hz => ha z (by simp [hz])) (fun z hz => hb z (by simp [hz]))
      simp only [List.map_cons, Op.bytesLess, lessL, h1]
      have e1 : decide (UInt8.ofNat x < UInt8.ofNat y) = Nat.blt x y := by
        rw [Bool.eq_iff_iff, decide_eq_true_eq, Nat.blt_eq, UInt8.lt_iff_toNat_lt]
        simp [UInt8.toNat_ofNat', Nat.mod_eq_of_lt hx, Nat.mod_eq_of_lt hy]
      have e2 : (UInt8.ofNat x == UInt8.ofNat y) = Nat.beq x y := by
        rw [Bool.eq_iff_iff, beq_iff_eq, Nat.beq_eq]
        exact ⟨ofNat_inj hx hy, fun h => by rw [h]⟩
      rw [e1, e2]
      cases Nat.blt x y <;> cases Nat.beq x y <;> simp
noncomputable def strBin (op : BinOp) (l m : List Nat) : Option AV := match op with
  | .add => match Nat.ble (Nat.add l.length m.length) 1000000000 with
    | true => some (.s (l ++ m))
    | false => none
  | .eql => some (.b (eqL l m))
  | .neq => some (.b (!eqL l m))
  | .lss => some (.b (lessL l m))
  | .geq => some (.b (!lessL l m))
  | .gtr => some (.b (!(lessL l m || eqL l m)))
  | .leq => some (.b (lessL l m || eqL l m))
  | _ => none
theorem strBin_ok {P : Program} {op : BinOp} {l m : List Nat} {v : AV} (hl : B256 l) (hm : B256 m) (h : strBin op l m = some v) (φ : Id → Option Plc) (t : TypeId) (w : World) : ∃ v', (Go.binOp op t (.string (bytesOf l)) (.string (bytesOf m))).run P w = .ok v' w ∧ VR φ v v' := by
  cases op <;> simp only [strBin] at h <;> try (cases h; done)
  case add =>
    split at h
    · rename_i hb
      simp only [Option.some.injEq] at h
      subst h
      have hb' : l.length + m.length ≤ 1000000000 := Nat.le_of_ble_eq_true hb
      refine ⟨.string (bytesOf l ++ bytesOf m), ?_, by rw [bytes_app], fun x hx => ?_⟩
      · have : ¬ (((bytesOf l).size + (bytesOf m).size : Nat) : Int) > IntKind.i64.max := by
          rw [bytes_size, bytes_size]
          show ¬ (((l.length + m.length : Nat) : Int) > 9223372036854775807)
          omega
        simp only [Go.binOp, Op.stringOp]
        rw [if_neg this]
        rfl
      · rcases List.mem_append.1 hx with hx | hx
        · exact hl x hx
        · exact hm x hx
    · cases h
  all_goals
    simp only [Option.some.injEq] at h
    subst h
    refine ⟨_, by simp only [Go.binOp, Op.stringOp]; rfl, ?_⟩
    first
      | (rw [eqL_bytes hl hm]; rfl)
      | (rw [lessL_bytes hl hm]; rfl)
      | (rw [lessL_bytes hl hm, eqL_bytes hl hm]; rfl)
end Go.Proofs.YtknjkljigmepjaaGreatDoor.Clo
end
section
namespace Go.Proofs.YtknjkljigmepjaaGreatDoor.Clo
open Go.RowKit
set_option linter.unusedVariables false
set_option linter.unusedSimpArgs false
variable [Tabs]
noncomputable def HP.on (hp : HP) (k : Mem → Id → R) : R := HP.rec k hp
noncomputable def onRow (m : Mem) (r : Id) (k : TypeId → Bool → Option Nat → Bool → AV → R) : R :=
  Option.rec (motive := fun _ => R) none (fun b => Blk.rec (motive := fun _ => R) k (fun _ => none) (fun _ _ => none) (fun _ => none) (fun _ _ => none) (fun _ _ _ => none) (fun _ => none) (fun _ => none) b) (m.get r)
theorem onRow_some {m : Mem} {r : Id} {k : TypeId → Bool → Option Nat → Bool → AV → R} {x : AV × HP} (h : onRow m r k = some x) : ∃ t gr fz ro cells, m.get r = some (.row t gr fz ro cells) ∧ k t gr fz ro cells = some x := by
  unfold onRow at h
  cases e : m.get r with
  | none => rw [e] at h; cases h
  | some b =>
    rw [e] at h
    cases b with
    | row t gr fz ro cells => exact ⟨t, gr, fz, ro, cells, rfl, h⟩
    | tab l => cases h
    | iter s p => cases h
    | dfd b => cases h
    | loop st pend => cases h
    | chn a b c => cases h
    | num a => cases h
    | fix a => cases h
noncomputable def AV.atR (n : Nat) : AV → (AV → R) → R :=
  Nat.rec (motive := fun _ => AV → (AV → R) → R) (fun l k => match l with | .cons x _ => k x | _ => none) (fun _ ih l k => match l with | .cons _ r => ih r k | _ => none) n
theorem AV.atR_some : ∀ (n : Nat) {l : AV} {k : AV → R} {x : AV × HP}, l.atR n k = some x → n < l.len ∧ k (l.at n) = some x
  | 0, l, k, x, h => by
    cases l <;> first | (cases h; done) | exact ⟨Nat.succ_pos _, h⟩
  | n + 1, l, k, x, h => by
    cases l <;> first | (cases h; done) | skip
    rename_i y r
    have h' : r.atR n k = some x := h
    obtain ⟨h1, h2⟩ := AV.atR_some n h'
    exact ⟨Nat.succ_lt_succ h1, h2⟩
noncomputable def AV.takeO (n : Nat) : AV → Option AV :=
  Nat.rec (motive := fun _ => AV → Option AV) (fun _ => some .nil) (fun _ ih l => match l with | .cons x r => Option.rec (motive := fun _ => Option AV) none (fun y => some (.cons x y)) (ih r) | _ => none) n
theorem AV.takeO_some : ∀ (n : Nat) {l y : AV}, l.takeO n = some y → n ≤ l.len ∧ y = l.take n
  | 0, l, y, h => by cases h; exact ⟨Nat.zero_le _, rfl⟩
  | n + 1, l, y, h => by
    cases l <;> first | (cases h; done) | skip
    rename_i x r
    have h' : (Option.rec (motive := fun _ => Option AV) none (fun y => some (.cons x y)) (r.takeO n) : Option AV) = some y := h
    cases e : r.takeO n with
    | none => rw [e] at h'; cases h'
    | some z =>
      rw [e] at h'
      cases h'
      obtain ⟨h1, h2⟩ := AV.takeO_some n e
      exact ⟨Nat.succ_le_succ h1, by rw [h2]; rfl⟩
theorem AV.drop_len : ∀ (o : Nat) (l : AV), 0 < (l.drop o).len → (l.drop o).len = l.len - o
  | 0, l, _ => rfl
  | o + 1, l, h => by
    cases l <;> first | (exact absurd h (Nat.lt_irrefl 0)) | skip
    rename_i x r
    have := AV.drop_len o r h
    show (r.drop o).len = r.len + 1 - (o + 1)
    omega
def AV.one : AV → Bool
  | .u | .nil | .cons _ _ | .ag _ | .tu _ => false
  | _ => true
theorem AV.one_ok {φ : Id → Option Plc} : ∀ {x : AV} {v : Value}, x.one = true → VR φ x v → v.oneCell' = true ∧ v.cells = #[v] := by
  intro x v h k
  cases x <;> simp only [AV.one, Bool.false_eq_true] at h
  case yd => obtain ⟨g, _, e⟩ := k; subst e; exact ⟨rfl, rfl⟩
  case ch => obtain ⟨g, _, e⟩ := k; subst e; exact ⟨rfl, rfl⟩
  case inil => have : v = _ := k; subst this; exact ⟨rfl, rfl⟩
  case ifc => obtain ⟨w, e, _⟩ := k; subst e; exact ⟨rfl, rfl⟩
  case fnil => have : v = _ := k; subst this; exact ⟨rfl, rfl⟩
  case fn => obtain ⟨xs, ys, e, _⟩ := k; subst e; exact ⟨rfl, rfl⟩
  case mn => have : v = _ := k; subst this; exact ⟨rfl, rfl⟩
  case mp => obtain ⟨g, _, e⟩ := k; subst e; exact ⟨rfl, rfl⟩
  case sn => have : v = _ := k; subst this; exact ⟨rfl, rfl⟩
  case sl => obtain ⟨g, c, _, e, _⟩ := k; subst e; exact ⟨rfl, rfl⟩
  case sg => obtain ⟨g, c, _, e, _⟩ := k; subst e; exact ⟨rfl, rfl⟩
  case se => obtain ⟨g, o, k, _, e, _⟩ := k; subst e; exact ⟨rfl, rfl⟩
  case pn => have : v = _ := k; subst this; exact ⟨rfl, rfl⟩
  case p => obtain ⟨g, _, e⟩ := k; subst e; exact ⟨rfl, rfl⟩
  case s => obtain ⟨e, _⟩ := k; subst e; exact ⟨rfl, rfl⟩
  case b => have : v = _ := k; subst this; exact ⟨rfl, rfl⟩
  case i => have : v = _ := k; subst this; exact ⟨rfl, rfl⟩
def AV.allOne : AV → Bool
  | .nil => true
  | .cons x r => x.one && r.allOne
  | _ => false
theorem AV.allOne_ok {φ : Id → Option Plc} : ∀ {x : AV} {l : List Value}, x.allOne = true → VL φ x l → ∀ v ∈ l, v.oneCell' = true
  | .nil, l, _, h => by have : l = [] := h; subst this; exact fun v hv => by cases hv
  | .cons x r, l, h, ⟨v, vs, e, h1, h2⟩ => by
    subst e
    simp only [AV.allOne, Bool.and_eq_true] at h
    intro u hu
    rcases List.mem_cons.1 hu with rfl | hu
    · exact (AV.one_ok h.1 h1).1
    · exact AV.allOne_ok h.2 h2 u hu
def AV.cellsO : AV → Option AV
  | .ag l => match l.allOne with
    | true => some l
    | false => none
  | x => match x.one with
    | true => some (.cons x .nil)
    | false => none
theorem AV.cellsO_ok {φ : Id → Option Plc} {x y : AV} {v : Value} (h : x.cellsO = some y) (k : VR φ x v) : VL φ y v.cells.toList ∧ ∀ u ∈ v.cells.toList, u.oneCell' = true := by
  unfold AV.cellsO at h
  split at h
  · rename_i l
    split at h
    · rename_i hl
      cases h
      obtain ⟨xs, e, h1⟩ := k
      subst e
      exact ⟨h1, AV.allOne_ok hl h1⟩
    · cases h
  · split at h
    · rename_i ho
      cases h
      obtain ⟨h1, h2⟩ := AV.one_ok ho k
      rw [h2]
      exact ⟨⟨v, [], rfl, k, rfl⟩, fun u hu => by rw [List.mem_singleton.1 hu]; exact h1⟩
    · cases h
section
variable {P : Program} {G dt n : Nat} {ds : List (Option Nat)} {o : Oper}
theorem fieldAddr_ok {s : TypeId} {x : Operand} {f : Nat} {fs : Array Field} {fd : Field} {i : TypeInfo} (ho : o.op = .fieldAddr s x f) (hs : P.underlying s = some (.struct fs)) (hf : fs[f]? = some fd) (hi : P.info? fd.type = some i) (hz : i.size ≠ 0) :
    PureOk P G dt n ds o (fun e t hp k => ((opd G dt n ds x).run e t).on_p fun r q => k (.p r (Nat.add q fd.offset)) hp) :=
  .pure fun e t hp k r hr => by
    obtain ⟨b, q, hb, h1⟩ := AV.on_p_some hr
    refine ⟨_, h1, fun φ a w hx => ?_⟩
    obtain ⟨g, hg, hv⟩ : ∃ g, φ b = some g ∧ a.eval x = .pointer (some ⟨g.1, g.2.2 + q, none⟩) := by have := hx x (by rw [ho]; simp [Op.operands, Call.operands]); rw [hb] at this; exact this
    refine ⟨.pointer (some ⟨g.1, g.2.2 + q + fd.offset, none⟩), ?_, g, hg, by rw [Nat.add_assoc]; rfl⟩
    unfold execOp
    rw [ho]
    simp only [Instr.fieldAt, hv, Instr.sureAddr, Sem.run_bind, run_underlying hs, Result.andThen_ok, hf, Sem.run_pure, fieldPlace, sizeOf, typeInfo]
    simp [hi, hz, add_lit, program, Sem.run]
end
end Go.Proofs.YtknjkljigmepjaaGreatDoor.Clo
end
section
namespace Go.Proofs.YtknjkljigmepjaaGreatDoor.Clo
open Go.RowKit
set_option linter.unusedVariables false
set_option linter.unusedSimpArgs false
variable [Tabs]
section
variable {P : Program} {G dt n : Nat} {ds : List (Option Nat)} {o : Oper}
noncomputable def loadF (agg : Bool) (sz : Nat) (r : Id) (q : Nat) (hp : HP) (k : KV) : R :=
  hp.on fun m _ => onRow m r fun _ _ _ _ cells => match agg with
    | false => cells.atR q fun v => k v hp
    | true => Option.rec (motive := fun _ => R) none (fun y => k (.ag y) hp) ((cells.drop q).takeO sz)
theorem runs_value {s : Sem Value} {w : World} {Q : Value → World → Prop} (h : Runs P s w Q) : ∃ v' w', (do Pure.pure (Next.value (← s)) : Sem Next).run P w = .ok (.value v') w' ∧ Q v' w' := by
  obtain ⟨v, w', h1, h2⟩ := h
  refine ⟨v, w', ?_, h2⟩
  rw [Sem.run_bind, h1]
  rfl
theorem runs_skip {s : Sem Unit} {w : World} {Q : Unit → World → Prop} (h : Runs P s w Q) : ∃ w', (do s; Pure.pure Next.skip : Sem Next).run P w = .ok .skip w' ∧ Q () w' := by
  obtain ⟨v, w', h1, h2⟩ := h
  refine ⟨w', ?_, h2⟩
  rw [Sem.run_bind, h1]
  rfl
theorem load_ok {t : TypeId} {x : Operand} {agg : Bool} {i : TypeInfo} (ho : o.op = .load t x) (ha : aggT P t = some agg) (hi : P.info? t = some i) :
    StillOk P G dt n ds o (fun e t hp k => ((opd G dt n ds x).run e t).on_p fun r q => loadF agg i.size r q hp k) :=
  fun e t0 hp k r hr => by
    obtain ⟨b, q, hb, h1⟩ := AV.on_p_some hr
    cases hp with
    | mk m nx =>
    obtain ⟨t1, gr, fz, ro, cells, hm, h2⟩ := onRow_some h1
    have key : ∀ v, (∀ φ w g, RW φ m w → φ b = some g → Runs P (loadVar t ⟨g.1, g.2.2 + q, none⟩) w fun v' w' => w' = w ∧ VR φ v v') → k v (.mk m nx) = some r →
        ∃ v, k v (.mk m nx) = some r ∧ ∀ φ (a : Act) w, Glo G φ → OpsR G dt n ds φ e t0 a.eval o.op → RH φ (.mk m nx) w → ∃ v', (execOp a.eval o).run P w = .ok (.value v') w ∧ VR φ v v' := by
      intro v hv hk
      refine ⟨v, hk, fun φ a w _ hx hw => ?_⟩
      obtain ⟨g, hg, hv'⟩ : ∃ g, φ b = some g ∧ a.eval x = .pointer (some ⟨g.1, g.2.2 + q, none⟩) := by have := hx x (by rw [ho]; simp [Op.operands, Call.operands]); rw [hb] at this; exact this
      obtain ⟨v', w', h3, rfl, h4⟩ := runs_value (hv φ w g hw hg)
      refine ⟨v', ?_, h4⟩
      unfold execOp
      rw [ho]
      simp only [Instr.loadAt, hv', Instr.sureAddr]
      exact h3
    cases agg with
    | false =>
      obtain ⟨h3, h4⟩ := AV.atR_some q h2
      refine key _ (fun φ w g hw hg => ?_) h4
      obtain ⟨v', h5, h6⟩ := RW.cell hw hm hg h3
      unfold loadVar
      exact .bind (runs_isAgg ha (runs_load h5 ⟨rfl, h6⟩))
    | true =>
      cases ht : (cells.drop q).takeO i.size with
      | none => simp only [ht] at h2; cases h2
      | some y =>
        simp only [ht] at h2
        obtain ⟨h3, h4⟩ := AV.takeO_some i.size ht
        refine key (.ag y) (fun φ w g hw hg => ?_) h2
        have hlen : q + i.size ≤ cells.len ∨ i.size = 0 := by
          rcases Nat.eq_zero_or_pos i.size with h0 | h0
          · exact .inr h0
          · have := AV.drop_len q cells (by omega)
            exact .inl (by omega)
        unfold loadVar
        refine .bind (runs_isAgg ha (.bind (runs_sizeOf hi (.bind ?_))))
        rcases hlen with hlen | h0
        · obtain ⟨vs, h5, h6, _⟩ := RW.cells (P := P) hw hm hg hlen
          exact .of h5 (.pure ⟨rfl, vs.toArray, rfl, by rw [h4]; exact h6⟩)
        · rw [h0] at h4 ⊢
          subst h4
          exact .of (a := #[]) (w' := w) rfl (.pure ⟨rfl, #[], rfl, rfl⟩)
noncomputable def storeF (sz : Nat) (r : Id) (q : Nat) (y : AV) (hp : HP) (k : KV) : R :=
  Option.rec (motive := fun _ => R) none (fun c => hp.on fun m nx => onRow m r fun t gr fz ro cells =>
    match ro with
    | true => none
    | false => match Nat.beq c.len sz with
      | false => none
      | true => match okF fz q with
        | false => none
        | true => match Nat.ble (Nat.add q sz) cells.len with
          | false => none
          | true => k undefA (.mk (m.set r (.row t gr fz false (c.setMany q cells))) nx)) y.cellsO
theorem store_ok {t : TypeId} {x y : Operand} {i : TypeInfo} (ho : o.op = .store t x y) (hi : P.info? t = some i) :
    ValOk P G dt n ds o (fun e t hp k => ((opd G dt n ds x).run e t).on_p fun r q => storeF i.size r q ((opd G dt n ds y).run e t) hp k) := by
  intro e t0 hp k r hr
  obtain ⟨b, q, hb, h1⟩ := AV.on_p_some hr
  unfold storeF at h1
  cases hc : ((opd G dt n ds y).run e t0).cellsO with
  | none => rw [hc] at h1; cases h1
  | some c =>
  rw [hc] at h1
  cases hp with
  | mk m nx =>
  obtain ⟨t1, gr, fz, ro, cells, hm, h2⟩ := onRow_some h1
  cases ro with
  | true => cases h2
  | false =>
  simp only at h2
  split at h2
  · cases h2
  rename_i hsz
  split at h2
  · cases h2
  rename_i hfz
  split at h2
  · cases h2
  rename_i hln
  have hsz' := Nat.eq_of_beq_eq_true hsz
  have hfz' := hfz
  have hln' : q + i.size ≤ cells.len := Nat.le_of_ble_eq_true hln
  refine ⟨_, _, h2, fun φ B a w g1 g2 hw => ?_⟩
  have hx := g2 x (by rw [ho]; simp [Op.operands, Call.operands])
  have hy := g2 y (by rw [ho]; simp [Op.operands, Call.operands])
  rw [hb] at hx
  obtain ⟨g, hg, hv'⟩ := hx
  obtain ⟨h3, h4⟩ := AV.cellsO_ok hc hy
  have hl := VL.len h3
  obtain ⟨s1, s2, s3⟩ := WR.store (P := P) hw hm hg h3 (o := q) (by omega) hfz' h4
  have hv'' : a.eval x = .pointer (some ⟨g.1, g.2.2 + q, none⟩) := hv'
  obtain ⟨w', h5, h6⟩ := runs_skip (P := P) (s := storeVar t ⟨g.1, g.2.2 + q, none⟩ (a.eval y)) (w := w) (Q := fun _ w' => w' = w.setCells g.1 (g.2.2 + q) (a.eval y).cells.toList) (by
    unfold storeVar
    refine .bind (runs_sizeOf hi ?_)
    rw [if_neg (by
      have : (a.eval y).cells.size = (a.eval y).cells.toList.length := by simp
      rw [this, hl]
      omega)]
    exact .of s1 rfl)
  subst h6
  refine ⟨φ, undef, _, .inr ⟨?_, rfl⟩, undefA_ok φ, s3, s2⟩
  unfold execOp
  rw [ho]
  simp only [Instr.storeAt, hv'', Instr.sureAddr]
  exact h5
end
end Go.Proofs.YtknjkljigmepjaaGreatDoor.Clo
end
section
namespace Go.Proofs.YtknjkljigmepjaaGreatDoor.Clo
open Go.RowKit
set_option linter.unusedVariables false
set_option linter.unusedSimpArgs false
variable [Tabs]
section
variable {P : Program} {G dt n : Nat} {ds : List (Option Nat)} {o : Oper}
noncomputable def newF (t : TypeId) (cells : AV) (hp : HP) (k : Id → HP → R) : R :=
  hp.on fun m nx => match last nx with
    | true => none
    | false => k nx (.mk (m.set nx (.row t false (some 0) false cells)) (inc nx))
theorem newF_some {t : TypeId} {cells : AV} {hp : HP} {k : Id → HP → R} {x : AV × HP} (h : newF t cells hp k = some x) : ∃ m nx, hp = .mk m nx ∧ last nx = false ∧ k nx (.mk (m.set nx (.row t false (some 0) false cells)) (inc nx)) = some x := by
  cases hp with
  | mk m nx =>
  have h' : (match last nx with | true => none | false => k nx (.mk (m.set nx (.row t false (some 0) false cells)) (inc nx)) : R) = some x := h
  cases hl : last nx with
  | true => rw [hl] at h'; cases h'
  | false => rw [hl] at h'; exact ⟨m, nx, rfl, hl, h'⟩
theorem row_says {φ : Id → Option Plc} {t : TypeId} {cells : AV} {cs : Array Value} (hc : VL φ cells cs.toList) : (Blk.row t false (some 0) false cells).says φ (cs.size, 0) (.cells cs t) := ⟨cs, [], cs.toList, [], (0, 0), rfl, by simp, hc, fun _ => ⟨rfl, rfl⟩, rfl, rfl, fun i _ _ h => absurd h (Nat.not_lt_zero i)⟩
theorem box_ok {t : TypeId} {x : Operand} (ho : o.op = .box t x) :
    MakeOk P G dt n ds o (fun e t0 hp k => Option.rec (motive := fun _ => R) none (fun c => newF t c hp fun r hp => k (.p r 0) hp) (((opd G dt n ds x).run e t0).cellsO)) := by
  intro e t0 hp k r hr
  simp only at hr
  cases hc : ((opd G dt n ds x).run e t0).cellsO with
  | none => rw [hc] at hr; cases hr
  | some c =>
  rw [hc] at hr
  obtain ⟨m, nx, e, hl, h1⟩ := newF_some hr
  refine ⟨m, nx, _, _, e, hl, rfl, h1, fun φ a w g1 g2 => ?_⟩
  have hx := g2 x (by rw [ho]; simp [Op.operands, Call.operands])
  obtain ⟨h3, _⟩ := AV.cellsO_ok hc hx
  refine ⟨.pointer (some ⟨w.heap.size, 0, none⟩), _, _, _, ?_, .alloc _ _, row_says h3, fun ψ _ hn => ⟨_, hn, rfl⟩⟩
  unfold execOp
  rw [ho]
  rfl
theorem alloc_ok {t : TypeId} {i : TypeInfo} {z : Value} {c : AV} (ho : o.op = .alloc t) (hi : P.info? t = some i) (hz : i.zero = some z) (hc : (ofConst z).cellsO = some c) :
    MakeOk P G dt n ds o (fun e t0 hp k => newF t c hp fun r hp => k (.p r 0) hp) := by
  intro e t0 hp k r hr
  obtain ⟨m, nx, e, hl, h1⟩ := newF_some hr
  refine ⟨m, nx, _, _, e, hl, rfl, h1, fun φ a w g1 g2 => ?_⟩
  obtain ⟨h3, _⟩ := AV.cellsO_ok hc (ofConst_ok φ z)
  refine ⟨.pointer (some ⟨w.heap.size, 0, none⟩), _, _, _, ?_, .alloc _ _, row_says h3, fun ψ _ hn => ⟨_, hn, rfl⟩⟩
  unfold execOp
  rw [ho]
  simp [Instr.alloc, zeroValue, typeInfo, program, Sem.run, hi, hz, newVar, newRow]
theorem extract_ok {x : Operand} {j : Nat} (ho : o.op = .extract x j) :
    PureOk P G dt n ds o (fun e t0 hp k => ((opd G dt n ds x).run e t0).on_tu fun l => l.atR j fun v => k v hp) :=
  .pure fun e t hp k r hr => by
    obtain ⟨l, hl, h1⟩ := AV.on_tu_some hr
    obtain ⟨h2, h3⟩ := AV.atR_some j h1
    refine ⟨_, h3, fun φ a w hx => ?_⟩
    obtain ⟨xs, e1, e2⟩ : ∃ xs : Array Value, a.eval x = .tuple xs ∧ VL φ l xs.toList := by have := hx x (by rw [ho]; simp [Op.operands, Call.operands]); rw [hl] at this; exact this
    have hj : j < xs.toList.length := by rw [VL.len e2]; exact h2
    have hv : xs.toList[j]? = some (xs.toList[j]'hj) := List.getElem?_eq_getElem hj
    refine ⟨xs.toList[j]'hj, ?_, VL.at e2 hv⟩
    unfold execOp
    rw [ho]
    rw [Array.getElem?_toList] at hv
    simp only [Instr.extract, e1, hv]
    rfl
def AV.ok0 : AV → Bool
  | .p _ _ => true
  | .ifc _ _ => true
  | .fn (.func _) _ _ => true
  | _ => false
theorem nilCheck_ok {x : Operand} (ho : o.op = .nilCheck x) :
    PureOk P G dt n ds o (fun e t0 hp k => match ((opd G dt n ds x).run e t0).ok0 with | true => k ((opd G dt n ds x).run e t0) hp | false => none) :=
  .pure fun e t hp k r hr => by
    split at hr
    · rename_i h0
      refine ⟨_, hr, fun φ a w hx => ⟨a.eval x, ?_, hx x (by rw [ho]; simp [Op.operands, Call.operands])⟩⟩
      have h := hx x (by rw [ho]; simp [Op.operands, Call.operands])
      unfold execOp
      rw [ho]
      generalize (opd G dt n ds x).run e t = y at h h0
      cases y <;> simp only [AV.ok0, Bool.false_eq_true] at h0
      · obtain ⟨w', e1, _⟩ := h
        simp only [e1]
        rfl
      · rename_i f _ _
        obtain ⟨xs, ys, e1, _⟩ := h
        cases f <;> simp only [Bool.false_eq_true] at h0
        simp only [e1]
        rfl
      · obtain ⟨g, _, e1⟩ := h
        simp only [e1]
        rfl
    · cases hr
theorem makeFunc_ok {f : Fn} {xs ys : Array Operand} (ho : o.op = .makeFunc f xs ys) :
    PureOk P G dt n ds o (fun e t0 hp k => k (.fn f (argsA (xs.toList.map (opd G dt n ds)) e t0) (argsA (ys.toList.map (opd G dt n ds)) e t0)) hp) :=
  .pure fun e t hp k r hr => ⟨_, hr, fun φ a w hx => ⟨.func f (xs.map a.eval) (ys.map a.eval), by unfold execOp; rw [ho]; rfl, _, _, rfl, by rw [Array.toList_map]; exact argsA_ok fun x hm => hx x (by rw [ho]; simp only [Op.operands, Array.mem_append]; exact .inl (Array.mem_toList_iff.1 hm)), by rw [Array.toList_map]; exact argsA_ok fun x hm => hx x (by rw [ho]; simp only [Op.operands, Array.mem_append]; exact .inr (Array.mem_toList_iff.1 hm))⟩⟩
theorem makeInterface_ok {t : TypeId} {x : Operand} {d : TypeDesc} (ho : o.op = .makeInterface t x) (hd : P.underlying t = some d) (hn : ∀ ms, d ≠ .interface ms) :
    PureOk P G dt n ds o (fun e t0 hp k => k (.ifc t ((opd G dt n ds x).run e t0)) hp) :=
  .pure fun e t0 hp k r hr => ⟨_, hr, fun φ a w hx => ⟨.iface t (a.eval x), by
    unfold execOp
    rw [ho]
    simp only [Instr.makeInterface, Sem.run_bind, run_underlying hd, Result.andThen_ok]
    cases d <;> first | rfl | exact absurd rfl (hn _), _, rfl, hx x (by rw [ho]; simp [Op.operands, Call.operands])⟩⟩
end
end Go.Proofs.YtknjkljigmepjaaGreatDoor.Clo
end
section
namespace Go.Proofs.YtknjkljigmepjaaGreatDoor.Clo
open Go.RowKit
set_option linter.unusedVariables false
set_option linter.unusedSimpArgs false
variable [Tabs]
inductive EK | bool | ptr | sl | map | fn | ifc
def EK.of (P : Program) (t : TypeId) : Option EK := match P.underlying t with
  | some .bool => some .bool
  | some (.pointer _) => some .ptr
  | some (.slice _) => some .sl
  | some (.map _ _) => some .map
  | some (.func _ _ _) => some .fn
  | some (.interface _) => some .ifc
  | _ => none
def nilEq (c : Bool) : EK → AV → AV → Option Bool
  | .bool, .b x, .b y => some (x == y)
  | .ptr, .pn, .pn => some true
  | .ptr, .pn, .p _ _ => some false
  | .ptr, .p _ _, .pn => some false
  | .sl, .sn, .sn => some true
  | .sl, .sn, .sl _ _ _ _ => some false
  | .sl, .sl _ _ _ _, .sn => some false
  | .sl, .sn, .sg _ _ _ _ => some false
  | .sl, .sg _ _ _ _, .sn => some false
  | .sl, .sn, .se _ _ _ => some false
  | .sl, .se _ _ _, .sn => some false
  | .map, .mn, .mn => some true
  | .map, .mn, .mp _ => some false
  | .map, .mp _, .mn => some false
  | .fn, .fnil, .fnil => some true
  | .fn, .fnil, .fn _ _ _ => some false
  | .fn, .fn _ _ _, .fnil => some false
  | .ifc, .inil, .inil => match c with | true => some true | false => none
  | .ifc, .inil, .ifc _ _ => some false
  | .ifc, .ifc _ _, .inil => some false
  | _, _, _ => none
def shiftF (op : BinOp) (k : IntKind) (x y : Int) : Option AV := match y with
  | .ofNat m => match op with
    | .shl => some (.i k (k.wrap (x * 2 ^ (min m k.bits))))
    | .shr => some (.i k (x.fdiv (2 ^ (min m k.bits))))
    | _ => none
  | _ => none
noncomputable def binF (ek : Option EK) (c : Bool) (op : BinOp) (a b : AV) : Option AV := match a, b with
  | .i k x, .i k' y => match op with
    | .shl => shiftF .shl k x y
    | .shr => shiftF .shr k x y
    | _ => if k = k' then intBin op k x y else none
  | .s l, .s m => strBin op l m
  | a, b => match ek with
    | none => none
    | some ek => match op with
      | .eql => match nilEq c ek a b with | some z => some (.b z) | none => none
      | .neq => match nilEq c ek a b with | some z => some (.b (!z)) | none => none
      | _ => none
def isConst : Operand → Bool
  | .const _ => true
  | _ => false
section
variable {P : Program} {G dt n : Nat} {ds : List (Option Nat)} {o : Oper}
theorem guard_run (op : BinOp) (t : TypeId) (x y : Operand) (a b : Value) (w : World) (h : (∃ v, a = v ∧ (∀ xs, v ≠ .agg xs) ∧ v ≠ .nilIface) ∨ (a = .nilIface ∧ (b ≠ .nilIface ∨ isConst x = true ∨ isConst y = true))) :
    (eqGuard op t x y a b).run P w = .ok () w := by
  rcases h with ⟨v, rfl, h1, h2⟩ | ⟨rfl, h3⟩
  · cases op <;> cases a <;> first | rfl | exact absurd rfl (h1 _) | exact absurd rfl h2
  · rcases h3 with h3 | h3 | h3
    · cases op <;> cases b <;> first | rfl | exact absurd rfl h3
    · cases x <;> first | (cases h3; done) | (cases op <;> cases b <;> rfl)
    · cases y <;> first | (cases h3; done) | (cases op <;> cases b <;> cases x <;> rfl)
theorem ek_of {t : TypeId} {ek : EK} (h : EK.of P t = some ek) : match ek with
    | .bool => P.underlying t = some .bool
    | .ptr => ∃ e, P.underlying t = some (.pointer e)
    | .sl => ∃ e, P.underlying t = some (.slice e)
    | .map => ∃ k e, P.underlying t = some (.map k e)
    | .fn => ∃ a b c, P.underlying t = some (.func a b c)
    | .ifc => ∃ ms, P.underlying t = some (.interface ms) := by
  unfold EK.of at h
  split at h <;> first | (cases h; done) | skip
  all_goals
    rename_i hu
    cases h
    first | exact hu | exact ⟨_, hu⟩ | exact ⟨_, _, hu⟩ | exact ⟨_, _, _, hu⟩
theorem equal_run {t : TypeId} {d : TypeDesc} {x y : Value} {z : Bool} {w : World} (hu : P.underlying t = some d) (h : (match d, x, y with
    | .bool, .bool a, .bool b => some (a == b)
    | .pointer _, .pointer none, .pointer b => some b.isNone
    | .pointer _, .pointer (some _), .pointer none => some false
    | .slice _, .slice none _ _, .slice b _ _ => some b.isNone
    | .slice _, .slice (some _) _ _, .slice none _ _ => some false
    | .map _ _, .map none, .map b => some b.isNone
    | .map _ _, .map (some _), .map none => some false
    | .func _ _ _, .nilFunc, .nilFunc => some true
    | .func _ _ _, .nilFunc, .func _ _ _ => some false
    | .func _ _ _, .func _ _ _, .nilFunc => some false
    | .interface _, .nilIface, .nilIface => some true
    | .interface _, .nilIface, .iface _ _ => some false
    | .interface _, .iface _ _, .nilIface => some false
    | _, _, _ => none) = some z) : (Op.equal t x y).run P w = .ok z w := by
  show (Op.equalIn (9999 + 1) t x y).run P w = _
  rw [Op.equalIn, Sem.run_bind, run_underlying hu]
  split at h <;> first | (cases h; done) | (cases h; rfl)
theorem bin_ok {op : BinOp} {t yt : TypeId} {x y : Operand} (ho : o.op = .binOp op t x y yt) :
    PureOk P G dt n ds o (fun e t0 hp k => Option.rec (motive := fun _ => R) none (fun v => k v hp) (binF (EK.of P t) (isConst x || isConst y) op ((opd G dt n ds x).run e t0) ((opd G dt n ds y).run e t0))) :=
  .pure fun e t0 hp k r hr => by
    cases hb : binF (EK.of P t) (isConst x || isConst y) op ((opd G dt n ds x).run e t0) ((opd G dt n ds y).run e t0) with
    | none => rw [hb] at hr; cases hr
    | some v =>
    rw [hb] at hr
    refine ⟨v, hr, fun φ a w hx => ?_⟩
    have h1 := (hx x (by rw [ho]; simp [Op.operands, Call.operands]))
    have h2 := (hx y (by rw [ho]; simp [Op.operands, Call.operands]))
    generalize (opd G dt n ds x).run e t0 = A at hb h1
    generalize (opd G dt n ds y).run e t0 = B at hb h2
    have fin : ∀ (va vb v' : Value), a.eval x = va → a.eval y = vb → (eqGuard op t x y va vb).run P w = .ok () w → (Go.binOp op t va vb).run P w = .ok v' w → VR φ v v' → ∃ v', (execOp a.eval o).run P w = .ok (.value v') w ∧ VR φ v v' := by
      intro va vb v' e1 e2 e3 e4 e5
      refine ⟨v', ?_, e5⟩
      unfold execOp
      rw [ho]
      simp only [e1, e2, Sem.run_bind, e3, Result.andThen_ok, e4]
      rfl
    unfold binF at hb
    split at hb
    · rename_i k u k' u'
      have e1 : a.eval x = .int k u := h1
      have e2 : a.eval y = .int k' u' := h2
      have hg : (eqGuard op t x y (.int k u) (.int k' u')).run P w = .ok () w := guard_run op t x y _ _ w (.inl ⟨_, rfl, (fun _ h => by cases h), (fun h => by cases h)⟩)
      have shf : ∀ op', op = op' → (op' = .shl ∨ op' = .shr) → shiftF op' k u u' = some v → ∃ v', (execOp a.eval o).run P w = .ok (.value v') w ∧ VR φ v v' := by
        intro op' eop hop hs
        subst eop
        unfold shiftF at hs
        split at hs
        · rename_i m
          rcases hop with rfl | rfl
          · simp only [Option.some.injEq] at hs
            subst hs
            exact fin _ _ (.int k (k.wrap (u * 2 ^ (min m k.bits)))) e1 e2 hg (by simp [Go.binOp, Op.shift]; intro h; omega) rfl
          · simp only [Option.some.injEq] at hs
            subst hs
            exact fin _ _ (.int k (u.fdiv (2 ^ (min m k.bits)))) e1 e2 hg (by simp [Go.binOp, Op.shift]; intro h; omega) rfl
        · cases hs
      split at hb
      · exact shf .shl rfl (.inl rfl) hb
      · exact shf .shr rfl (.inr rfl) hb
      · split at hb
        · rename_i hk
          subst hk
          obtain ⟨v', h3, h4⟩ := intBin_ok (P := P) hb φ t w
          exact fin _ _ v' e1 e2 hg h3 h4
        · cases hb
    · rename_i l m
      obtain ⟨e1, b1⟩ := h1
      obtain ⟨e2, b2⟩ := h2
      obtain ⟨v', h3, h4⟩ := strBin_ok (P := P) b1 b2 hb φ t w
      exact fin _ _ v' e1 e2 (guard_run op t x y _ _ w (.inl ⟨_, rfl, (fun _ h => by cases h), (fun h => by cases h)⟩)) h3 h4
    · split at hb
      · cases hb
      · rename_i ek hek
        have key : ∀ z, nilEq (isConst x || isConst y) ek A B = some z → (eqGuard op t x y (a.eval x) (a.eval y)).run P w = .ok () w ∧ (Op.equal t (a.eval x) (a.eval y)).run P w = .ok z w ∧
            (op = .eql → (Go.binOp op t (a.eval x) (a.eval y)).run P w = .ok (.bool z) w) ∧ (op = .neq → (Go.binOp op t (a.eval x) (a.eval y)).run P w = .ok (.bool (!z)) w) := by
          intro z hz
          have mk : ∀ va vb, a.eval x = va → a.eval y = vb → (eqGuard op t x y va vb).run P w = .ok () w → (Op.equal t va vb).run P w = .ok z w → (∀ k u, va ≠ .int k u) → (∀ k u, va ≠ .float k u) → (∀ k u v, va ≠ .complex k u v) → (∀ s, va ≠ .string s) →
              (eqGuard op t x y (a.eval x) (a.eval y)).run P w = .ok () w ∧ (Op.equal t (a.eval x) (a.eval y)).run P w = .ok z w ∧
              (op = .eql → (Go.binOp op t (a.eval x) (a.eval y)).run P w = .ok (.bool z) w) ∧ (op = .neq → (Go.binOp op t (a.eval x) (a.eval y)).run P w = .ok (.bool (!z)) w) := by
            intro va vb e1 e2 g1 g2 n1 n2 n3 n4
            rw [e1, e2]
            refine ⟨g1, g2, fun h => ?_, fun h => ?_⟩
            · subst h
              have : Go.binOp .eql t va vb = (do Pure.pure (.bool (← Op.equal t va vb))) := by
                cases va <;> first | rfl | exact absurd rfl (n1 _ _) | exact absurd rfl (n2 _ _) | exact absurd rfl (n3 _ _ _) | exact absurd rfl (n4 _)
              rw [this, Sem.run_bind, g2]; rfl
            · subst h
              have : Go.binOp .neq t va vb = (do Pure.pure (.bool (!(← Op.equal t va vb)))) := by
                cases va <;> first | rfl | exact absurd rfl (n1 _ _) | exact absurd rfl (n2 _ _) | exact absurd rfl (n3 _ _ _) | exact absurd rfl (n4 _)
              rw [this, Sem.run_bind, g2]; rfl
          have hu := ek_of hek
          have no : ∀ va vb, (∀ xs, va ≠ .agg xs) → va ≠ .nilIface → (eqGuard op t x y va vb).run P w = .ok () w := fun va vb q1 q2 => guard_run op t x y va vb w (.inl ⟨va, rfl, q1, q2⟩)
          have ni : ∀ vb, vb ≠ .nilIface → (eqGuard op t x y .nilIface vb).run P w = .ok () w := fun vb q => guard_run op t x y _ vb w (.inr ⟨rfl, .inl q⟩)
          unfold nilEq at hz
          split at hz <;> first | (cases hz; done) | skip
          · simp only at hu
            simp only [Option.some.injEq] at hz
            subst hz
            have e1 : a.eval x = .bool _ := h1
            have e2 : a.eval y = .bool _ := h2
            exact mk _ _ e1 e2 (no _ _ (fun _ h => by cases h) (fun h => by cases h)) (equal_run hu rfl) (fun _ _ h => by cases h) (fun _ _ h => by cases h) (fun _ _ _ h => by cases h) (fun _ h => by cases h)
          · obtain ⟨_, hu⟩ := hu
            simp only [Option.some.injEq] at hz
            subst hz
            have e1 : a.eval x = .pointer none := h1
            have e2 : a.eval y = .pointer none := h2
            exact mk _ _ e1 e2 (no _ _ (fun _ h => by cases h) (fun h => by cases h)) (equal_run hu rfl) (fun _ _ h => by cases h) (fun _ _ h => by cases h) (fun _ _ _ h => by cases h) (fun _ h => by cases h)
          · obtain ⟨_, hu⟩ := hu
            simp only [Option.some.injEq] at hz
            subst hz
            have e1 : a.eval x = .pointer none := h1
            obtain ⟨ge2, _, e2⟩ := h2
            exact mk _ _ e1 e2 (no _ _ (fun _ h => by cases h) (fun h => by cases h)) (equal_run hu rfl) (fun _ _ h => by cases h) (fun _ _ h => by cases h) (fun _ _ _ h => by cases h) (fun _ h => by cases h)
          · obtain ⟨_, hu⟩ := hu
            simp only [Option.some.injEq] at hz
            subst hz
            obtain ⟨ge1, _, e1⟩ := h1
            have e2 : a.eval y = .pointer none := h2
            exact mk _ _ e1 e2 (no _ _ (fun _ h => by cases h) (fun h => by cases h)) (equal_run hu rfl) (fun _ _ h => by cases h) (fun _ _ h => by cases h) (fun _ _ _ h => by cases h) (fun _ h => by cases h)
          · obtain ⟨_, hu⟩ := hu
            simp only [Option.some.injEq] at hz
            subst hz
            have e1 : a.eval x = .slice none 0 0 := h1
            have e2 : a.eval y = .slice none 0 0 := h2
            exact mk _ _ e1 e2 (no _ _ (fun _ h => by cases h) (fun h => by cases h)) (equal_run hu rfl) (fun _ _ h => by cases h) (fun _ _ h => by cases h) (fun _ _ _ h => by cases h) (fun _ h => by cases h)
          · obtain ⟨_, hu⟩ := hu
            simp only [Option.some.injEq] at hz
            subst hz
            have e1 : a.eval x = .slice none 0 0 := h1
            obtain ⟨ge2, ke2, _, e2, _⟩ := h2
            exact mk _ _ e1 e2 (no _ _ (fun _ h => by cases h) (fun h => by cases h)) (equal_run hu rfl) (fun _ _ h => by cases h) (fun _ _ h => by cases h) (fun _ _ _ h => by cases h) (fun _ h => by cases h)
          · obtain ⟨_, hu⟩ := hu
            simp only [Option.some.injEq] at hz
            subst hz
            obtain ⟨ge1, ke1, _, e1, _⟩ := h1
            have e2 : a.eval y = .slice none 0 0 := h2
            exact mk _ _ e1 e2 (no _ _ (fun _ h => by cases h) (fun h => by cases h)) (equal_run hu rfl) (fun _ _ h => by cases h) (fun _ _ h => by cases h) (fun _ _ _ h => by cases h) (fun _ h => by cases h)
          · obtain ⟨_, hu⟩ := hu
            simp only [Option.some.injEq] at hz
            subst hz
            have e1 : a.eval x = .slice none 0 0 := h1
            obtain ⟨ge2, ke2, _, e2, _⟩ := h2
            exact mk _ _ e1 e2 (no _ _ (fun _ h => by cases h) (fun h => by cases h)) (equal_run hu rfl) (fun _ _ h => by cases h) (fun _ _ h => by cases h) (fun _ _ _ h => by cases h) (fun _ h => by cases h)
          · obtain ⟨_, hu⟩ := hu
            simp only [Option.some.injEq] at hz
            subst hz
            obtain ⟨ge1, ke1, _, e1, _⟩ := h1
            have e2 : a.eval y = .slice none 0 0 := h2
            exact mk _ _ e1 e2 (no _ _ (fun _ h => by cases h) (fun h => by cases h)) (equal_run hu rfl) (fun _ _ h => by cases h) (fun _ _ h => by cases h) (fun _ _ _ h => by cases h) (fun _ h => by cases h)
          · obtain ⟨_, hu⟩ := hu
            simp only [Option.some.injEq] at hz
            subst hz
            have e1 : a.eval x = .slice none 0 0 := h1
            obtain ⟨ge2, oe2, ke2, _, e2, _⟩ := h2
            exact mk _ _ e1 e2 (no _ _ (fun _ h => by cases h) (fun h => by cases h)) (equal_run hu rfl) (fun _ _ h => by cases h) (fun _ _ h => by cases h) (fun _ _ _ h => by cases h) (fun _ h => by cases h)
          · obtain ⟨_, hu⟩ := hu
            simp only [Option.some.injEq] at hz
            subst hz
            obtain ⟨ge1, oe1, ke1, _, e1, _⟩ := h1
            have e2 : a.eval y = .slice none 0 0 := h2
            exact mk _ _ e1 e2 (no _ _ (fun _ h => by cases h) (fun h => by cases h)) (equal_run hu rfl) (fun _ _ h => by cases h) (fun _ _ h => by cases h) (fun _ _ _ h => by cases h) (fun _ h => by cases h)
          · obtain ⟨_, _, hu⟩ := hu
            simp only [Option.some.injEq] at hz
            subst hz
            have e1 : a.eval x = .map none := h1
            have e2 : a.eval y = .map none := h2
            exact mk _ _ e1 e2 (no _ _ (fun _ h => by cases h) (fun h => by cases h)) (equal_run hu rfl) (fun _ _ h => by cases h) (fun _ _ h => by cases h) (fun _ _ _ h => by cases h) (fun _ h => by cases h)
          · obtain ⟨_, _, hu⟩ := hu
            simp only [Option.some.injEq] at hz
            subst hz
            have e1 : a.eval x = .map none := h1
            obtain ⟨ge2, _, e2⟩ := h2
            exact mk _ _ e1 e2 (no _ _ (fun _ h => by cases h) (fun h => by cases h)) (equal_run hu rfl) (fun _ _ h => by cases h) (fun _ _ h => by cases h) (fun _ _ _ h => by cases h) (fun _ h => by cases h)
          · obtain ⟨_, _, hu⟩ := hu
            simp only [Option.some.injEq] at hz
            subst hz
            obtain ⟨ge1, _, e1⟩ := h1
            have e2 : a.eval y = .map none := h2
            exact mk _ _ e1 e2 (no _ _ (fun _ h => by cases h) (fun h => by cases h)) (equal_run hu rfl) (fun _ _ h => by cases h) (fun _ _ h => by cases h) (fun _ _ _ h => by cases h) (fun _ h => by cases h)
          · obtain ⟨_, _, _, hu⟩ := hu
            simp only [Option.some.injEq] at hz
            subst hz
            have e1 : a.eval x = .nilFunc := h1
            have e2 : a.eval y = .nilFunc := h2
            exact mk _ _ e1 e2 (no _ _ (fun _ h => by cases h) (fun h => by cases h)) (equal_run hu rfl) (fun _ _ h => by cases h) (fun _ _ h => by cases h) (fun _ _ _ h => by cases h) (fun _ h => by cases h)
          · obtain ⟨_, _, _, hu⟩ := hu
            simp only [Option.some.injEq] at hz
            subst hz
            have e1 : a.eval x = .nilFunc := h1
            obtain ⟨xse2, yse2, e2, _⟩ := h2
            exact mk _ _ e1 e2 (no _ _ (fun _ h => by cases h) (fun h => by cases h)) (equal_run hu rfl) (fun _ _ h => by cases h) (fun _ _ h => by cases h) (fun _ _ _ h => by cases h) (fun _ h => by cases h)
          · obtain ⟨_, _, _, hu⟩ := hu
            simp only [Option.some.injEq] at hz
            subst hz
            obtain ⟨xse1, yse1, e1, _⟩ := h1
            have e2 : a.eval y = .nilFunc := h2
            exact mk _ _ e1 e2 (no _ _ (fun _ h => by cases h) (fun h => by cases h)) (equal_run hu rfl) (fun _ _ h => by cases h) (fun _ _ h => by cases h) (fun _ _ _ h => by cases h) (fun _ h => by cases h)
          · obtain ⟨_, hu⟩ := hu
            split at hz
            · rename_i hc
              simp only [Option.some.injEq] at hz
              subst hz
              have e1 : a.eval x = .nilIface := h1
              have e2 : a.eval y = .nilIface := h2
              exact mk _ _ e1 e2 (guard_run op t x y _ _ w (.inr ⟨rfl, .inr (by simpa [Bool.or_eq_true] using hc)⟩)) (equal_run hu rfl) (fun _ _ h => by cases h) (fun _ _ h => by cases h) (fun _ _ _ h => by cases h) (fun _ h => by cases h)
            · cases hz
          · obtain ⟨_, hu⟩ := hu
            simp only [Option.some.injEq] at hz
            subst hz
            have e1 : a.eval x = .nilIface := h1
            obtain ⟨we2, e2, _⟩ := h2
            exact mk _ _ e1 e2 (ni _ (fun h => by cases h)) (equal_run hu rfl) (fun _ _ h => by cases h) (fun _ _ h => by cases h) (fun _ _ _ h => by cases h) (fun _ h => by cases h)
          · obtain ⟨_, hu⟩ := hu
            simp only [Option.some.injEq] at hz
            subst hz
            obtain ⟨we1, e1, _⟩ := h1
            have e2 : a.eval y = .nilIface := h2
            exact mk _ _ e1 e2 (no _ _ (fun _ h => by cases h) (fun h => by cases h)) (equal_run hu rfl) (fun _ _ h => by cases h) (fun _ _ h => by cases h) (fun _ _ _ h => by cases h) (fun _ h => by cases h)
        cases op <;> simp only at hb <;> first | (cases hb; done) | skip
        all_goals
          split at hb
          · rename_i z hz
            simp only [Option.some.injEq] at hb
            subst hb
            obtain ⟨g1, g2, g3, g4⟩ := key z hz
            first
              | exact fin _ _ (.bool z) rfl rfl g1 (g3 rfl) rfl
              | exact fin _ _ (.bool (!z)) rfl rfl g1 (g4 rfl) rfl
          · cases hb
end
end Go.Proofs.YtknjkljigmepjaaGreatDoor.Clo
end
section
namespace Go.Proofs.YtknjkljigmepjaaGreatDoor.Clo
open Go.RowKit
set_option linter.unusedVariables false
set_option linter.unusedSimpArgs false
variable [Tabs]
section
variable {P : Program} {G dt n : Nat} {ds : List (Option Nat)} {o : Oper}
theorem not_ok {t : TypeId} {x : Operand} (ho : o.op = .unOp .not t x) : PureOk P G dt n ds o (fun e t0 hp k => ((opd G dt n ds x).run e t0).on_b fun b => k (.b (Bool.rec true false b)) hp) :=
  .pure fun e t0 hp k r hr => by
    obtain ⟨b, hb, h1⟩ := AV.on_b_some hr
    refine ⟨_, h1, fun φ a w hx => ⟨.bool (!b), ?_, by cases b <;> rfl⟩⟩
    have hc : a.eval x = .bool b := by have := (hx x (by rw [ho]; simp [Op.operands, Call.operands])); rw [hb] at this; exact this
    unfold execOp
    rw [ho]
    simp only [Op.unary, hc]
    rfl
noncomputable def nthR (n : Nat) : List Nat → (Nat → R) → R :=
  Nat.rec (motive := fun _ => List Nat → (Nat → R) → R) (fun l k => List.rec (motive := fun _ => R) none (fun x _ _ => k x) l) (fun _ ih l k => List.rec (motive := fun _ => R) none (fun _ r _ => ih r k) l) n
theorem nthR_some : ∀ (n : Nat) {l : List Nat} {k : Nat → R} {x : AV × HP}, nthR n l k = some x → ∃ b, l[n]? = some b ∧ k b = some x
  | 0, [], k, x, h => by cases h
  | 0, y :: l, k, x, h => ⟨y, rfl, h⟩
  | n + 1, [], k, x, h => by cases h
  | n + 1, y :: l, k, x, h => nthR_some n (l := l) h
noncomputable def onNat (a : Int) (k : Nat → R) : R := Int.rec (motive := fun _ => R) k (fun _ => none) a
theorem onNat_some {a : Int} {k : Nat → R} {x : AV × HP} (h : onNat a k = some x) : ∃ m : Nat, a = m ∧ k m = some x := by
  cases a with
  | ofNat m => exact ⟨m, rfl, h⟩
  | negSucc m => cases h
theorem indexS_ok {t : TypeId} {x y : Operand} (ho : o.op = .index t x y) (hu : P.underlying t = some .string) :
    PureOk P G dt n ds o (fun e t0 hp k => ((opd G dt n ds x).run e t0).on_s fun l => ((opd G dt n ds y).run e t0).on_i fun _ j => onNat j fun j => nthR j l fun b => k (.i .u8 (Int.ofNat b)) hp) :=
  .pure fun e t0 hp k r hr => by
    obtain ⟨l, hl, h1⟩ := AV.on_s_some hr
    obtain ⟨kd, j, hj, h2⟩ := AV.on_i_some h1
    obtain ⟨m, rfl, h3⟩ := onNat_some h2
    obtain ⟨b, hb, h4⟩ := nthR_some m h3
    refine ⟨_, h4, fun φ a w hx => ?_⟩
    obtain ⟨e1, b1⟩ : a.eval x = .string (bytesOf l) ∧ ∀ x ∈ l, x < 256 := by have := (hx x (by rw [ho]; simp [Op.operands, Call.operands])); rw [hl] at this; exact this
    have e2 : a.eval y = .int kd (m : Int) := by have := (hx y (by rw [ho]; simp [Op.operands, Call.operands])); rw [hj] at this; exact this
    have hb' : b < 256 := b1 b (List.mem_of_getElem? hb)
    have hg : (bytesOf l)[(m : Int).toNat]? = some (UInt8.ofNat b) := by rw [Int.toNat_natCast, bytes_get, hb]; rfl
    refine ⟨.int .u8 b, ?_, rfl⟩
    unfold execOp
    rw [ho]
    simp only [Instr.index, e1, e2, asIntOf, Sem.run_bind, Sem.run_pure, Result.andThen_ok, run_underlying hu]
    rw [if_pos (Int.natCast_nonneg m), hg]
    simp [UInt8.toNat_ofNat', Nat.mod_eq_of_lt hb']
noncomputable def lenL (l : List Nat) : Nat := List.rec (motive := fun _ => Nat) 0 (fun _ _ n => Nat.succ n) l
theorem lenL_eq : ∀ l : List Nat, lenL l = l.length
  | [] => rfl
  | x :: l => congrArg Nat.succ (lenL_eq l)
theorem lenS_ok {t : TypeId} {x : Operand} (ho : o.op = .call { callee := .builtin .len, args := #[x], argTypes := #[t] }) (hu : P.underlying t = some .string) :
    PureOk P G dt n ds o (fun e t0 hp k => ((opd G dt n ds x).run e t0).on_s fun l => k (.i .i64 (Int.ofNat (lenL l))) hp) :=
  .pure fun e t0 hp k r hr => by
    obtain ⟨l, hl, h1⟩ := AV.on_s_some hr
    refine ⟨_, h1, fun φ a w hx => ⟨.int .i64 (l.length : Int), ?_, by rw [lenL_eq]; rfl⟩⟩
    obtain ⟨e1, b1⟩ : a.eval x = .string (bytesOf l) ∧ ∀ x ∈ l, x < 256 := by have := (hx x (by rw [ho]; simp [Op.operands, Call.operands])); rw [hl] at this; exact this
    unfold execOp
    rw [ho]
    simp [resolve, invoke, builtin, Builtin.len_, e1, run_underlying hu, goInt, bytes_size]
noncomputable def sliceLen (a : AV) (k : Nat → R) : R := match a with
  | .sn => k 0
  | .sl _ _ m _ => k m
  | .sg _ _ m _ => k m
  | .se _ _ _ => k 0
  | _ => none
theorem sliceLen_some {a : AV} {k : Nat → R} {x : AV × HP} (h : sliceLen a k = some x) : ∃ m, k m = some x ∧ ∀ φ v, VR φ a v → ∃ b c, v = .slice b m c := by
  unfold sliceLen at h
  split at h
  · exact ⟨0, h, fun φ v hv => ⟨none, 0, hv⟩⟩
  · rename_i r q m c
    exact ⟨m, h, fun φ v ⟨g, c', _, e, _⟩ => ⟨_, _, e⟩⟩
  · rename_i r q m c
    exact ⟨m, h, fun φ v ⟨g, c', _, e, _⟩ => ⟨_, _, e⟩⟩
  · exact ⟨0, h, fun φ v ⟨g, o, c', _, e, _⟩ => ⟨_, _, e⟩⟩
  · cases h
theorem lenV_ok {t el : TypeId} {x : Operand} (ho : o.op = .call { callee := .builtin .len, args := #[x], argTypes := #[t] }) (hu : P.underlying t = some (.slice el)) :
    PureOk P G dt n ds o (fun e t0 hp k => sliceLen ((opd G dt n ds x).run e t0) fun m => k (.i .i64 (Int.ofNat m)) hp) :=
  .pure fun e t0 hp k r hr => by
    obtain ⟨m, h1, h2⟩ := sliceLen_some hr
    refine ⟨_, h1, fun φ a w hx => ⟨.int .i64 (m : Int), ?_, rfl⟩⟩
    obtain ⟨b, c, e1⟩ := h2 φ _ ((hx x (by rw [ho]; simp [Op.operands, Call.operands])))
    unfold execOp
    rw [ho]
    simp [resolve, invoke, builtin, Builtin.len_, e1, run_underlying hu, goInt]
end
end Go.Proofs.YtknjkljigmepjaaGreatDoor.Clo
end
