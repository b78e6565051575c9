/- Part 15 of a proof laid in parts, one behind the other; no condition of its own. -/
import Derived.Test.YtobaebpmdimljaaGreatDoorZ14
import Derived.Lib.Bytealg
import GoSem.Extern.MapsClone
set_option linter.all false
section
namespace Go.Proofs.YtobaebpmdimljaaGreatDoor.Clo
open Go.RowKit
set_option linter.unusedVariables false
set_option linter.unusedSimpArgs false
set_option linter.constructorNameAsVariable false
def maskOf : List Nat → Nat → Nat
  | [], acc => acc
  | d :: r, acc => maskOf r (Nat.lor acc (bitOf d))
def lessOf (W : Nat) : List Nat → List Nat
  | [] => []
  | d :: r => match W.testBit d with
    | true => lessOf W r
    | false => d :: lessOf W r
def keptOps (ops : Array Oper) : List Oper → Nat → Nat → Nat
  | [], _, acc => acc
  | o :: r, W, acc => keptOps ops r (match o.dst with | some d => Nat.lor W (bitOf d) | none => W) (maskOf (lessOf W (reads ops o)) acc)
def kept : Code → Nat → Nat
  | .region _ ops _, acc => keptOps ops ops.toList 0 acc
  | .seq a b, acc => kept b (kept a acc)
  | .cond c a b, acc => kept b (kept a (maskOf (slotOf c).toList acc))
  | .block _ a, acc => kept a acc
  | .loop a, acc => kept a acc
  | .scope a, acc => kept a acc
  | .rangeFunc g _ a b, acc => kept b (kept a (maskOf (slotOf g).toList acc))
  | _, acc => acc
def resSlots : List ResultVar → List Nat
  | [] => []
  | .tmp d :: r => d :: resSlots r
  | .cell d _ :: r => d :: resSlots r
def loOf (fn : Func) (c : Code) : Nat := kept c (maskOf (resSlots fn.results.toList) 0)
def digs (n : Nat) : Nat := match Nat.blt n 4, Nat.blt n 16, Nat.blt n 64, Nat.blt n 256 with
  | true, _, _, _ => 1
  | _, true, _, _ => 2
  | _, _, true, _ => 3
  | _, _, _, true => 4
  | _, _, _, _ => 5
inductive DM where | mk (f : Hd → AV → AV → HP → KV → R)
noncomputable def DM.run (q : DM) : Hd → AV → AV → HP → KV → R := DM.rec (fun f => f) q
noncomputable def finK (q : QM) (t : Tr) (k : KV) (kp : KP) (md : AV) (hp : HP) : R := match md with
  | .nil => q.run t hp fun l => oneOf l fun v => k v hp
  | .cons v .nil => kp v hp
  | _ => none
section
variable (P : Program) (G fuel : Nat) (fn : Func)
noncomputable def opsOf (dt : Nat) : OpM := fun ds o => match odAll P G dt fn.ntmps ds o with
  | some q => some q.1
  | none => none
noncomputable def kindOf (dt : Nat) (o : Oper) : Kd := match odAll P G dt fn.ntmps [] o with
  | some q => q.1.1
  | none => .eff
noncomputable def bodyM (dt : Nat) (lo : Nat → Bool) (c : Code) : CM := codeM G dt fn.ntmps lo (opsOf P G fn dt) (regM G dt fn.ntmps lo (opsOf P G fn dt) (kindOf P G fn dt)) fuel c
noncomputable def funcM : FM := match fn.body with
  | none => .mk fun _ _ _ _ _ => none
  | some c =>
    let dt := digs fn.ntmps
    let mask := loOf fn c
    let lo := fun d => !mask.testBit d
    let m := bodyM P G fuel fn dt lo c
    let q := resL P dt fn.ntmps fn.results.toList
    let p := path dt fn.ntmps
    match Nat.blt fn.ntmps (4 ^ dt), Nat.ble fn.results.toList.length 5 with
    | true, true => .mk fun hd args hp k kp => match Nat.ble args.len fn.ntmps with
      | true => m.run hd (initT dt lo args 0 .e) hp fun x t hp => Ex.rec (leaveM hd (getT p t) .nil hp (finK q t k kp)) (fun _ => none) (leaveM hd (getT p t) .nil hp (finK q t k kp)) (fun v => leaveM hd (getT p t) (.cons v .nil) hp (finK q t k kp)) x
      | false => none
    | _, _ => .mk fun _ _ _ _ _ => none
noncomputable def recV (md : AV) (k : AV → R) : R := match md with
  | .nil => k .inil
  | .cons v .nil => k v
  | _ => none
def isRec (o : Oper) : Bool := match o.guard, o.op with
  | none, .call c => (match c.callee with | .builtin .recover => true | _ => false)
  | _, _ => false
noncomputable def plainM (dt : Nat) (lo : Nat → Bool) (c : Code) : DM :=
  let q := resL P dt fn.ntmps fn.results.toList
  let p := path dt fn.ntmps
  let m := bodyM P G fuel fn dt lo c
  .mk fun hd args md hp k => match Nat.ble args.len fn.ntmps with
    | true => m.run hd (initT dt lo args 0 .e) hp fun x t hp => match x, getT p t with
      | .normal, .u => q.run t hp fun l => oneOf l fun _ => k md hp
      | .ret, .u => q.run t hp fun l => oneOf l fun _ => k md hp
      | _, _ => none
    | false => none
noncomputable def defM : DM := match fn.body with
  | none => .mk fun _ _ _ _ _ => none
  | some c =>
    let dt := digs fn.ntmps
    let mask := loOf fn c
    let lo := fun d => !mask.testBit d
    let q := resL P dt fn.ntmps fn.results.toList
    let p := path dt fn.ntmps
    match Nat.blt fn.ntmps (4 ^ dt), Nat.ble fn.results.toList.length 5 with
    | true, true => match c with
      | .seq (.region _ ops false) rest => match ops.toList with
        | o :: os => match isRec o, o.dst with
          | true, some d => match Nat.blt d fn.ntmps with
            | true =>
              let m1 := opsM G dt fn.ntmps lo (opsOf P G fn dt) ops os [some d]
              let m2 := bodyM P G fuel fn dt lo rest
              let pd := path dt d
              .mk fun hd args md hp k => match Nat.ble args.len fn.ntmps with
                | true => recV md fun v => m1.run hd.off [v] (Bool.rec ((initT dt lo args 0 .e).set pd v) (initT dt lo args 0 .e) (lo d)) hp fun x t hp => match x with
                  | .normal => m2.run hd t hp fun x t hp => match x, getT p t with
                    | .normal, .u => q.run t hp fun l => oneOf l fun _ => k .nil hp
                    | .ret, .u => q.run t hp fun l => oneOf l fun _ => k .nil hp
                    | _, _ => none
                  | _ => none
                | false => none
            | false => .mk fun _ _ _ _ _ => none
          | _, _ => plainM P G fuel fn dt lo c
        | _ => plainM P G fuel fn dt lo c
      | _ => plainM P G fuel fn dt lo c
    | _, _ => .mk fun _ _ _ _ _ => none
end
section
variable {P : Program} {G : Nat}
def FMOk (P : Program) (G : Nat) (f : FuncId) (m : FM) : Prop := ∀ hd, HdOk P G hd → ∀ args hp k kp r, m.run hd args hp k kp = some r →
  (∃ v hp', k v hp' = some r ∧ ∀ φ (B : Bse hd.y.s) w (ars : Array Value), Glo G φ → WH φ B hp w → VL φ args ars.toList → CallOk P f ars w (Aft φ B hp w v hp')) ∨
  (∃ v hp', kp v hp' = some r ∧ ∀ φ (B : Bse hd.y.s) w (ars : Array Value), Glo G φ → WH φ B hp w → VL φ args ars.toList → CallPan P f ars w (Aft φ B hp w v hp'))
def DMOk (P : Program) (G : Nat) (f : FuncId) (m : DM) : Prop := ∀ hd, HdOk P G hd → ∀ args md hp k r, m.run hd args md hp k = some r → ∃ md' hp', k md' hp' = some r ∧ ∀ φ (B : Bse hd.y.s) w (ars : Array Value) u, Glo G φ → WH φ B hp w → VL φ args ars.toList → ModeR φ md u →
  (callFunc f ars).run P w = .ok (.enter f ars) w ∧ CallsD P f ars u w fun e u' w' => (∃ v, e = .returned v) ∧ ∃ ψ, ModeR ψ md' (settle u') ∧ StH φ hp w ψ hp' w' ∧ WH ψ B hp' w'
theorem opsOf_ok {fn : Func} {dt : Nat} {ds : List (Option Nat)} {o : Oper} {q : Kd × OM} (h : opsOf P G fn dt ds o = some q) : OmOk P G dt fn.ntmps ds o q := by
  unfold opsOf at h
  split at h
  · rename_i q' _; cases h; exact q'.2
  · cases h
theorem bodyM_ok {fuel : Nat} {fn : Func} {dt : Nat} {lo : Nat → Bool} (hmix : P.follows .mixedOrders = true) (c : Code) : CMOk P G dt fn.ntmps lo c (bodyM P G fuel fn dt lo c) :=
  codeM_ok (fun ds o q h => opsOf_ok h) (fun id ops m h => regM_ok hmix (fun ds o q h => opsOf_ok h) h) c
theorem funcM_ok {fuel : Nat} {f : FuncId} {fn : Func} (hmix : P.follows .mixedOrders = true) (hf : P.funcs[f]? = some fn) (hc : ∀ (ars : Array Value) w, (callFunc f ars).run P w = .ok (.enter f ars) w) : FMOk P G f (funcM P G fuel fn) := by
  intro hd hok args hp k kp r hr
  unfold funcM at hr
  cases hb : fn.body with
  | none => simp only [hb] at hr; cases hr
  | some c =>
  simp only [hb] at hr
  generalize hlo : (fun d => !(loOf fn c).testBit d) = lo at hr
  generalize hdt : digs fn.ntmps = dt at hr
  split at hr
  · rename_i hcap h4
    have hcap' : fn.ntmps < 4 ^ dt := by simpa [Nat.blt_eq] using hcap
    have h4' : fn.results.toList.length ≤ 5 := Nat.le_of_ble_eq_true h4
    have hr' : (match Nat.ble args.len fn.ntmps with
      | true => (bodyM P G fuel fn dt lo c).run hd (initT dt lo args 0 .e) hp fun x t hp => Ex.rec (leaveM hd (getT (path dt fn.ntmps) t) .nil hp (finK (resL P dt fn.ntmps fn.results.toList) t k kp)) (fun _ => none) (leaveM hd (getT (path dt fn.ntmps) t) .nil hp (finK (resL P dt fn.ntmps fn.results.toList) t k kp)) (fun v => leaveM hd (getT (path dt fn.ntmps) t) (.cons v .nil) hp (finK (resL P dt fn.ntmps fn.results.toList) t k kp)) x
      | false => none : R) = some r := hr
    split at hr'
    · rename_i hle
      have hle' : args.len ≤ fn.ntmps := Nat.le_of_ble_eq_true hle
      obtain ⟨x, t', hp1, h1, h2⟩ := (bodyM_ok (fuel := fuel) (lo := lo) (dt := dt) (fn := fn) (G := G) hmix c).wp hok hr'
      have leave : ∀ md, leaveM hd (getT (path dt fn.ntmps) t') md hp1 (finK (resL P dt fn.ntmps fn.results.toList) t' k kp) = some r → (∀ ψ x', ExR ψ x x' → ∀ R a' w', (∀ u, ModeR ψ md u → LeavesX P fn a'.tmps R a'.defers u w') → bodyPostX P fn R x' a' w') →
          (∃ v hp', k v hp' = some r ∧ ∀ φ (B : Bse hd.y.s) w (ars : Array Value), Glo G φ → WH φ B hp w → VL φ args ars.toList → CallOk P f ars w (Aft φ B hp w v hp')) ∨
          (∃ v hp', kp v hp' = some r ∧ ∀ φ (B : Bse hd.y.s) w (ars : Array Value), Glo G φ → WH φ B hp w → VL φ args ars.toList → CallPan P f ars w (Aft φ B hp w v hp')) := by
        intro md hl hx
        obtain ⟨md', hp2, h3, h4⟩ := leaveM_some hok hl
        have all : ∀ R : Ending → World → Prop, ∀ φ (B : Bse hd.y.s) w (ars : Array Value), Glo G φ → WH φ B hp w → VL φ args ars.toList →
            (∀ ψ a' χ u' w2, FR χ dt fn.ntmps lo t' a' → ModeR χ md' u' → StH φ hp w χ hp2 w2 → WH χ B hp2 w2 → ψ = χ → Leaves P fn a'.tmps R [] u' w2) → Calls P f ars w R := by
          intro R φ B w ars g1 hw hargs hfin
          refine calls_of_wp_marks hf hb ?_
          refine h2 φ B _ w g1 (enter_ok hcap' hargs hle') hw _ fun ψ a' w' x' f0 f1 f2 f3 => ?_
          refine hx ψ x' f0 R a' w' fun u hu => ?_
          exact h4 ψ B w' a'.defers u fn a'.tmps R (g1.more f2.more) f3 f1.df hu fun χ u' w2 s1 s2 s3 => hfin χ a' χ u' w2 (f1.more s2.more) s1 (f2.trans s2) s3 rfl
        unfold finK at h3
        split at h3
        · obtain ⟨l, h5, h6⟩ := resL_some (lo := lo) h3
          have hone : ∃ v, k v hp2 = some r ∧ ∀ φ (B : Bse hd.y.s) (a : Act) w, FR φ dt fn.ntmps lo t' a → WH φ B hp2 w → ∃ v', (results fn a.tmps).run P w = .ok v' w ∧ VR φ v v' := by
            obtain ⟨v, q1, q2⟩ := results_ok (P := P) (fn := fn) h4' h5
            refine ⟨v, q1, fun φ B a w hfr hw => ?_⟩
            obtain ⟨vs, v1, v2, v3⟩ := h6 φ B a w hfr hw
            exact q2 φ a.tmps w vs v1 v2 v3
          obtain ⟨v, h7, h8⟩ := hone
          refine .inl ⟨v, hp2, h7, fun φ B w ars g1 hw hargs => .inl ⟨hc ars w, all _ φ B w ars g1 hw hargs fun ψ a' χ u' w2 s0 s1 s2 s3 _ => ?_⟩⟩
          have hu : u' = .returning := s1
          subst hu
          obtain ⟨v', q1, q2⟩ := h8 χ B a' w2 s0 s3
          exact ⟨v', q1, v', rfl, χ, q2, s2, s3⟩
        · rename_i v
          refine .inr ⟨v, hp2, h3, fun φ B w ars g1 hw hargs => ⟨hc ars w, all _ φ B w ars g1 hw hargs fun ψ a' χ u' w2 s0 s1 s2 s3 _ => ?_⟩⟩
          obtain ⟨v', e, q⟩ := s1
          subst e
          exact ⟨v', rfl, χ, q, s2, s3⟩
        · cases h3
      cases x with
      | normal => exact leave .nil h1 fun ψ x' f0 R a' w' hl => by have : x' = .normal := f0; subst this; exact hl .returning rfl
      | exit i => cases h1
      | ret => exact leave .nil h1 fun ψ x' f0 R a' w' hl => by have : x' = .ret := f0; subst this; exact hl .returning rfl
      | pan v => exact leave (.cons v .nil) h1 fun ψ x' f0 R a' w' hl => by obtain ⟨v', e, hv⟩ := f0; subst e; exact hl (.panicking (one v')) ⟨v', rfl, hv⟩
    · cases hr'
  · cases hr
end
end Go.Proofs.YtobaebpmdimljaaGreatDoor.Clo
end
section
namespace Go.Proofs.YtobaebpmdimljaaGreatDoor.Clo
open Go.RowKit
set_option linter.unusedVariables false
set_option linter.unusedSimpArgs false
set_option linter.constructorNameAsVariable false
section
variable {P : Program} {G : Nat}
theorem wpOpsS_step {ops : Array Oper} {QS : Exit → Act → List Frame → World → Prop} {CS : List Frame} {j : Nat} {o : Oper} {l : List Nat} {a : Act} {w : World} (ho : ops[j]? = some o)
    (h : ∀ K : Act → World → Prop, (∀ a w, wpOpsS P ops QS l a CS w → K a w) → if Region.wanted o (yielded ops a.tmps) then o.wp P a w K (fun e a w => QS e a CS w) else K (a.put o.dst undef) w) : wpOpsS P ops QS (j :: l) a CS w := by
  have h' := h _ (fun _ _ h => h)
  unfold wpOpsS
  simp only [ho]
  split
  · rename_i hw
    rw [if_pos hw] at h'
    unfold Oper.wp at h'
    split
    · rename_i w' hr
      rw [hr] at h'
      exact h'.elim
    · exact h'
  · rename_i hw
    rw [if_neg hw] at h'
    exact h'
theorem isRec_some {o : Oper} (h : isRec o = true) : o.guard = none ∧ ∃ c, o.op = .call c ∧ c.callee = .builtin .recover := by
  unfold isRec at h
  split at h
  · rename_i c hg ho
    split at h
    · rename_i hc; exact ⟨hg, c, ho, hc⟩
    · cases h
  · cases h
theorem execRec {o : Oper} {e : Operand → Value} {w : World} (h : isRec o = true) : (execOp e o).run P w = .ok .recover w := by
  obtain ⟨_, c, h1, h2⟩ := isRec_some h
  unfold execOp
  rw [h1]
  simp only [resolve, h2, Sem.run_bind, Sem.run_pure, Result.andThen_ok]
  rfl
theorem wpOpsS_rec {ops : Array Oper} {QS : Exit → Act → List Frame → World → Prop} {o : Oper} {os : List Oper} {a : Act} {w : World} {c₀ : Frame} {cs : List Frame} {v : Value} {u' : FrameMode} (hops : ops.toList = o :: os) (hrec : isRec o = true)
    (hm : (c₀.mode = .returning ∧ v = .nilIface ∧ u' = .returning) ∨ (c₀.mode = .panicking (one v) ∧ u' = .panicking [{ v := v, recovered := true }]))
    (h : wpOpsS P ops QS (List.range' 1 os.length) (a.put o.dst v) ({ c₀ with mode := u' } :: cs) w) : wpOpsS P ops QS (List.range ops.size) a (c₀ :: cs) w := by
  have hsz : ops.size = os.length + 1 := by rw [← Array.length_toList, hops]; rfl
  have h0 : ops[0]? = some o := by rw [← Array.getElem?_toList, hops]; rfl
  rw [hsz, List.range_eq_range', List.range'_succ]
  unfold wpOpsS
  simp only [h0]
  rw [if_pos (by simp [Region.wanted, (isRec_some hrec).1]), execRec hrec]
  rcases hm with ⟨h1, h2, h3⟩ | ⟨h1, h2⟩
  · subst h2 h3
    have e : recoverD (c₀ :: cs) = none := by simp only [recoverD, h1]
    simp only [e]
    have e2 : ({ c₀ with mode := .returning } : Frame) = c₀ := by rw [← h1]
    rw [e2] at h
    exact h
  · subst h2
    have e : recoverD (c₀ :: cs) = some (v, { c₀ with mode := .panicking [{ v := v, recovered := true }] } :: cs) := by simp only [recoverD, h1, one]
    simp only [e]
    exact h
theorem defM_ok {fuel : Nat} {f : FuncId} {fn : Func} (hmix : P.follows .mixedOrders = true) (hf : P.funcs[f]? = some fn) (hc : ∀ (ars : Array Value) w, (callFunc f ars).run P w = .ok (.enter f ars) w) : DMOk P G f (defM P G fuel fn) := by
  intro hd hok args md hp k r hr
  unfold defM at hr
  cases hb : fn.body with
  | none => simp only [hb] at hr; cases hr
  | some c =>
  simp only [hb] at hr
  generalize hlo : (fun d => !(loOf fn c).testBit d) = lo at hr
  generalize hdt : digs fn.ntmps = dt at hr
  split at hr
  · rename_i hcap h4
    have hcap' : fn.ntmps < 4 ^ dt := by simpa [Nat.blt_eq] using hcap
    have h4' : fn.results.toList.length ≤ 5 := Nat.le_of_ble_eq_true h4
    have fin : ∀ (x : Ex) (t' : Tr) (hp2 : HP) (md' : AV), (match x, getT (path dt fn.ntmps) t' with
        | .normal, .u => (resL P dt fn.ntmps fn.results.toList).run t' hp2 fun l => oneOf l fun _ => k md' hp2
        | .ret, .u => (resL P dt fn.ntmps fn.results.toList).run t' hp2 fun l => oneOf l fun _ => k md' hp2
        | _, _ => none : R) = some r → k md' hp2 = some r ∧ (x = .normal ∨ x = .ret) ∧ ∀ φ (B : Bse hd.y.s) (a : Act) w, FR φ dt fn.ntmps lo t' a → WH φ B hp2 w → a.defers = [] ∧ ∃ v, (results fn a.tmps).run P w = .ok v w := by
      intro x t' hp2 md' h
      have key : getT (path dt fn.ntmps) t' = .u → (resL P dt fn.ntmps fn.results.toList).run t' hp2 (fun l => oneOf l fun _ => k md' hp2) = some r → k md' hp2 = some r ∧ ∀ φ (B : Bse hd.y.s) (a : Act) w, FR φ dt fn.ntmps lo t' a → WH φ B hp2 w → a.defers = [] ∧ ∃ v, (results fn a.tmps).run P w = .ok v w := by
        intro hu h1
        obtain ⟨l, h5, h6⟩ := resL_some (lo := lo) h1
        obtain ⟨v, q1, q2⟩ := results_ok (P := P) (fn := fn) h4' h5
        refine ⟨q1, fun φ B a w hfr hw => ⟨?_, ?_⟩⟩
        · have := hfr.df
          rw [hu] at this
          exact this
        · obtain ⟨vs, v1, v2, v3⟩ := h6 φ B a w hfr hw
          obtain ⟨v', e, _⟩ := q2 φ a.tmps w vs v1 v2 v3
          exact ⟨v', e⟩
      split at h
      · rename_i hu
        obtain ⟨q1, q2⟩ := key hu h
        exact ⟨q1, .inl rfl, q2⟩
      · rename_i hu
        obtain ⟨q1, q2⟩ := key hu h
        exact ⟨q1, .inr rfl, q2⟩
      · cases h
    have plain : (plainM P G fuel fn dt lo c).run hd args md hp k = some r → ∃ md' hp', k md' hp' = some r ∧ ∀ φ (B : Bse hd.y.s) w (ars : Array Value) u, Glo G φ → WH φ B hp w → VL φ args ars.toList → ModeR φ md u →
        (callFunc f ars).run P w = .ok (.enter f ars) w ∧ CallsD P f ars u w fun e u' w' => (∃ v, e = .returned v) ∧ ∃ ψ, ModeR ψ md' (settle u') ∧ StH φ hp w ψ hp' w' ∧ WH ψ B hp' w' := by
      intro hp0
      have hr' : (match Nat.ble args.len fn.ntmps with
          | true => (bodyM P G fuel fn dt lo c).run hd (initT dt lo args 0 .e) hp fun x t hp => match x, getT (path dt fn.ntmps) t with
            | .normal, .u => (resL P dt fn.ntmps fn.results.toList).run t hp fun l => oneOf l fun _ => k md hp
            | .ret, .u => (resL P dt fn.ntmps fn.results.toList).run t hp fun l => oneOf l fun _ => k md hp
            | _, _ => none
          | false => none : R) = some r := hp0
      split at hr'
      · rename_i hle
        have hle' : args.len ≤ fn.ntmps := Nat.le_of_ble_eq_true hle
        obtain ⟨x, t', hp1, h1, h2⟩ := (bodyM_ok (fuel := fuel) (lo := lo) (dt := dt) (fn := fn) (G := G) hmix c).wp hok hr'
        obtain ⟨q1, q2, q3⟩ := fin x t' hp1 md h1
        refine ⟨md, hp1, q1, fun φ B w ars u g1 hw hargs hmd => ⟨hc ars w, ?_⟩⟩
        refine CallsD.mono (callsD_of_wp (R := fun e w' => (∃ v, e = .returned v) ∧ ∃ ψ, More φ ψ ∧ StH φ hp w ψ hp1 w' ∧ WH ψ B hp1 w') hf hb ?_) fun e u' w' he => ?_
        · refine h2 φ B _ w g1 (enter_ok hcap' hargs hle') hw _ fun ψ a' w' x' f0 f1 f2 f3 => ?_
          obtain ⟨s1, v, s2⟩ := q3 ψ B a' w' f1 f3
          rcases q2 with e | e
          · subst e
            have : x' = .normal := f0
            subst this
            exact ⟨s1, v, s2, ⟨v, rfl⟩, ψ, f2.more, f2, f3⟩
          · subst e
            have : x' = .ret := f0
            subst this
            exact ⟨s1, v, s2, ⟨v, rfl⟩, ψ, f2.more, f2, f3⟩
        · obtain ⟨hu, hret, ψ, hm, hs, hw'⟩ := he
          subst hu
          refine ⟨hret, ψ, ?_, hs, hw'⟩
          unfold ModeR at hmd ⊢
          split at hmd
          · subst hmd; rfl
          · obtain ⟨v', e, hv⟩ := hmd
            subst e
            exact ⟨v', rfl, hv.more hm⟩
          · exact hmd.elim
      · cases hr'
    split at hr
    · rename_i id ops rest
      split at hr
      · rename_i o os hops
        split at hr
        · rename_i d hrec hdst
          split at hr
          · rename_i hd0
            have hd0' : d < fn.ntmps := by simpa [Nat.blt_eq] using hd0
            have hlo2 : (!(loOf fn ((Code.region id ops false).seq rest)).testBit d) = lo d := congrFun hlo d
            rw [hlo2] at hr
            have hr' : (match Nat.ble args.len fn.ntmps with
                | true => recV md fun v => (opsM G dt fn.ntmps lo (opsOf P G fn dt) ops os [some d]).run hd.off [v] (Bool.rec ((initT dt lo args 0 .e).set (path dt d) v) (initT dt lo args 0 .e) (lo d)) hp fun x t hp => match x with
                  | .normal => (bodyM P G fuel fn dt lo rest).run hd t hp fun x t hp => match x, getT (path dt fn.ntmps) t with
                    | .normal, .u => (resL P dt fn.ntmps fn.results.toList).run t hp fun l => oneOf l fun _ => k .nil hp
                    | .ret, .u => (resL P dt fn.ntmps fn.results.toList).run t hp fun l => oneOf l fun _ => k .nil hp
                    | _, _ => none
                  | _ => none
                | false => none : R) = some r := hr
            split at hr'
            · rename_i hle
              have hle' : args.len ≤ fn.ntmps := Nat.le_of_ble_eq_true hle
              have hv : ∃ v, (opsM G dt fn.ntmps lo (opsOf P G fn dt) ops os [some d]).run hd.off [v] (Bool.rec ((initT dt lo args 0 .e).set (path dt d) v) (initT dt lo args 0 .e) (lo d)) hp (fun x t hp => match x with
                  | .normal => (bodyM P G fuel fn dt lo rest).run hd t hp fun x t hp => match x, getT (path dt fn.ntmps) t with
                    | .normal, .u => (resL P dt fn.ntmps fn.results.toList).run t hp fun l => oneOf l fun _ => k .nil hp
                    | .ret, .u => (resL P dt fn.ntmps fn.results.toList).run t hp fun l => oneOf l fun _ => k .nil hp
                    | _, _ => none
                  | _ => none) = some r ∧ ∀ φ u, ModeR φ md u → ∃ v' u', VR φ v v' ∧ ((u = .returning ∧ v' = .nilIface ∧ u' = .returning) ∨ (u = .panicking (one v') ∧ u' = .panicking [{ v := v', recovered := true }])) ∧ settle u' = .returning := by
                unfold recV at hr'
                split at hr'
                · exact ⟨_, hr', fun φ u hu => ⟨.nilIface, .returning, rfl, .inl ⟨hu, rfl, rfl⟩, rfl⟩⟩
                · exact ⟨_, hr', fun φ u hu => by
                    obtain ⟨v', e, q⟩ := hu
                    exact ⟨v', _, q, .inr ⟨e, rfl⟩, rfl⟩⟩
                · cases hr'
              obtain ⟨v, hv1, hv2⟩ := hv
              obtain ⟨x, t', hp1, h1, h2⟩ := opsM_gen (P := P) (fun ds o q h => opsOf_ok h) ops false (fun Q l a w => ∀ QS CS, Q = (fun e a w => QS e a CS w) → ∀ j, ops.toList.drop j = l → wpOpsS P ops QS (List.range' j l.length) a CS w)
                (fun Q a w h QS CS hQ j hj => by subst hQ; unfold wpOpsS; exact h)
                (fun Q o l a w h QS CS hQ j hj => by
                  have hj0 : ops[j]? = some o := by
                    rw [← Array.getElem?_toList]
                    have := congrArg (fun l => l[0]?) hj
                    simpa using this
                  rw [List.length_cons, List.range'_succ]
                  refine wpOpsS_step hj0 fun K hK => ?_
                  subst hQ
                  have off : ∀ {K : Act → World → Prop} {Q}, OW false P o a w K Q → o.wp P a w K Q := fun {K Q} h => h.resolve_right fun h => by cases h.1
                  have h9 := h K fun a w hW => hK a w (hW QS CS rfl (j + 1) (by rw [← List.drop_drop, hj]; rfl))
                  split at h9
                  · rename_i hwt; rw [if_pos hwt]; exact off h9
                  · rename_i hwt; rw [if_neg hwt]; exact h9) os [some d] hd.off rfl hok.off _ _ hp _ r hv1
              cases x with
              | normal =>
                obtain ⟨x2, t2, hp2, h3, h4⟩ := (bodyM_ok (fuel := fuel) (lo := lo) (dt := dt) (fn := fn) (G := G) hmix rest).wp hok h1
                obtain ⟨q1, q2, q3⟩ := fin x2 t2 hp2 .nil h3
                refine ⟨.nil, hp2, q1, fun φ B w ars u g1 hw hargs hmd => ⟨hc ars w, ?_⟩⟩
                obtain ⟨v', u', hvr, hmode, hset⟩ := hv2 φ u hmd
                refine callsD_of_wpS hf hb fun c₀ cs hc0 => ?_
                subst hc0
                have hfr0 := enter_ok (lo := lo) (dt := dt) hcap' hargs hle'
                refine wpS_seq (wpS_region (wpOpsS_rec hops hrec hmode ?_))
                refine h2 φ B _ w g1 ?_ ?_ hw _ (fun ψ a1 w1 x1 f0 f1 f2 f3 => ?_) _ _ rfl 1 (by rw [hops]; rfl)
                · rw [hdst]
                  cases hl : lo d with
                  | false => exact hfr0.put hd0' hl hvr
                  | true => exact hfr0.put_lo hd0' hl
                · rw [hdst]
                  exact EnvR.put (EnvR.nil φ [] _) hvr (some d) (fun d' e => by cases e; rw [hfr0.sz]; exact hd0')
                · have : x1 = .normal := f0
                  subst this
                  refine wpS_of_wp ?_
                  refine h4 ψ B _ w1 (g1.more f2.more) f1 f3 _ fun χ a2 w2 x3 e0 e1 e2 e3 => ?_
                  obtain ⟨s1, v3, s2⟩ := q3 χ B a2 w2 e1 e3
                  have hend : ∃ ψ, ModeR ψ .nil (settle u') ∧ StH φ hp w ψ hp2 w2 ∧ WH ψ B hp2 w2 := ⟨χ, hset, f2.trans e2, e3⟩
                  rcases q2 with e | e
                  · subst e
                    have : x3 = .normal := e0
                    subst this
                    exact ⟨s1, u', rfl, v3, s2, ⟨v3, rfl⟩, hend⟩
                  · subst e
                    have : x3 = .ret := e0
                    subst this
                    exact ⟨s1, u', rfl, v3, s2, ⟨v3, rfl⟩, hend⟩
              | exit i => cases h1
              | ret => cases h1
              | pan v => cases h1
            · cases hr'
          · cases hr
        · exact plain hr
      · exact plain hr
    · exact plain hr
  · cases hr
end
structure Ent (P : Program) (G : Nat) where
  f : FuncId
  m : FM
  d : DM
  ok : FMOk P G f m
  okD : DMOk P G f d
  own : Bool
  okE : own = true → ∀ (ars : Array Value) w, (callFunc f ars).run P w = .ok (.enter f ars) w
inductive FTree (P : Program) (G : Nat) where
  | leaf
  | node (l : FTree P G) (e : Ent P G) (r : FTree P G)
section
variable {P : Program} {G : Nat}
noncomputable def FTree.find (f : FuncId) : FTree P G → Option (Ent P G)
  | .leaf => none
  | .node l e r => match Nat.blt f e.f with
    | true => l.find f
    | false => match Nat.beq f e.f with
      | true => some e
      | false => r.find f
theorem FTree.find_f {f : FuncId} : ∀ {T : FTree P G} {e : Ent P G}, T.find f = some e → e.f = f
  | .leaf, e, h => by cases h
  | .node l e0 r, e, h => by
    unfold FTree.find at h
    split at h
    · exact FTree.find_f h
    · split at h
      · rename_i hb
        cases h
        exact (Nat.eq_of_beq_eq_true hb).symm
      · exact FTree.find_f h
noncomputable def hdM (T : FTree P G) (fuel : Nat) : HdB :=
  Nat.rec (motive := fun _ => HdB) ⟨fun _ _ _ _ _ _ => none, fun _ _ _ _ _ _ => none, fun _ => false⟩ (fun _ ih => ⟨fun y f args hp k kp => Option.rec (motive := fun _ => R) none (fun e => e.m.run ⟨ih, y⟩ args hp k kp) (T.find f), fun y f args md hp k => Option.rec (motive := fun _ => R) none (fun e => e.d.run ⟨ih, y⟩ args md hp k) (T.find f),
    fun f => Option.rec (motive := fun _ => Bool) false (fun e => e.own) (T.find f)⟩) fuel
theorem hdM_ok (T : FTree P G) : ∀ fuel, HdOkB P G (hdM T fuel)
  | 0 => ⟨fun y hy => ⟨fun f args hp k kp r h => (by cases h), fun f args md hp k r h => (by cases h)⟩, fun f h => by cases h⟩
  | fuel + 1 => by
    have ih := hdM_ok T fuel
    refine ⟨fun y hy => ⟨fun f args hp k kp r h => ?_, fun f args md hp k r h => ?_⟩, fun f h => ?_⟩
    · have h' : (Option.rec (motive := fun _ => R) none (fun e => e.m.run ⟨hdM T fuel, y⟩ args hp k kp) (T.find f) : R) = some r := h
      cases he : T.find f with
      | none => rw [he] at h'; cases h'
      | some e =>
        rw [he] at h'
        have hf := FTree.find_f he
        subst hf
        exact e.ok ⟨hdM T fuel, y⟩ ⟨hy, ih⟩ args hp k kp r h'
    · have h' : (Option.rec (motive := fun _ => R) none (fun e => e.d.run ⟨hdM T fuel, y⟩ args md hp k) (T.find f) : R) = some r := h
      cases he : T.find f with
      | none => rw [he] at h'; cases h'
      | some e =>
        rw [he] at h'
        have hf := FTree.find_f he
        subst hf
        exact e.okD ⟨hdM T fuel, y⟩ ⟨hy, ih⟩ args md hp k r h'
    · have h' : (Option.rec (motive := fun _ => Bool) false (fun e => e.own) (T.find f) : Bool) = true := h
      cases he : T.find f with
      | none => rw [he] at h'; cases h'
      | some e =>
        rw [he] at h'
        have hf := FTree.find_f he
        subst hf
        exact e.okE h'
noncomputable def y0 : Ys := ⟨[], false, fun _ _ _ _ => none⟩
theorem y0_ok : YOk P G y0 := fun q args hp k r h => by cases h
theorem hd0_ok (T : FTree P G) (fuel : Nat) : HdOk P G ⟨hdM T fuel, y0⟩ := ⟨y0_ok, hdM_ok T fuel⟩
noncomputable def Ent.of (fuel : Nat) (f : FuncId) {fn : Func} (hmix : P.follows .mixedOrders = true) (hf : P.funcs[f]? = some fn) (hc : ∀ (ars : Array Value) w, (callFunc f ars).run P w = .ok (.enter f ars) w) : Ent P G :=
  ⟨f, funcM P G fuel fn, defM P G fuel fn, funcM_ok hmix hf hc, defM_ok hmix hf hc, true, fun _ => hc⟩
noncomputable def Ent.sum (f : FuncId) (F : AV → HP → KV → R) (h : ∀ args hp k r, F args hp k = some r → ∃ v hp', k v hp' = some r ∧ ∀ {sts : List Site} φ (B : Bse sts) w (ars : Array Value), Glo G φ → WH φ B hp w → VL φ args ars.toList → CallOk P f ars w (Aft φ B hp w v hp')) : Ent P G :=
  ⟨f, .mk fun _ args hp k _ => F args hp k, .mk fun _ _ _ _ _ => none, fun hd _ args hp k kp r hr => .inl (let ⟨v, hp', h1, h2⟩ := h args hp k r hr; ⟨v, hp', h1, fun φ B w ars => h2 φ B w ars⟩), (fun hd _ args md hp k r hr => by cases hr), false, fun h => by cases h⟩
end
end Go.Proofs.YtobaebpmdimljaaGreatDoor.Clo
end
section
namespace Go.Proofs.YtobaebpmdimljaaGreatDoor.Clo
open Go.RowKit
set_option linter.unusedVariables false
set_option linter.unusedSimpArgs false
set_option linter.constructorNameAsVariable false
noncomputable def posF (c : Nat) (l : List Nat) : Nat → Int :=
  List.rec (motive := fun _ => Nat → Int) (fun _ => -1) (fun x _ ih i => Bool.rec (ih (Nat.succ i)) (Int.ofNat i) (Nat.beq x c)) l
theorem posF_eq {c : Nat} (hc : c < 256) : ∀ (l : List Nat) (i : Nat), B256 l → posF c l i = if Lib.indexByte (l.map UInt8.ofNat) (UInt8.ofNat c) = -1 then -1 else Lib.indexByte (l.map UInt8.ofNat) (UInt8.ofNat c) + i
  | [], i, _ => rfl
  | x :: l, i, hb => by
    have hx := hb x (by simp)
    show (Bool.rec (posF c l (Nat.succ i)) (Int.ofNat i) (Nat.beq x c) : Int) = _
    have hge := Lib.indexByte_ge (l.map UInt8.ofNat) (UInt8.ofNat c)
    cases h : Nat.beq x c with
    | true =>
      have := Nat.eq_of_beq_eq_true h
      subst this
      simp [Lib.indexByte]
    | false =>
      have hne : (UInt8.ofNat x == UInt8.ofNat c) = false := Bool.eq_false_iff.2 fun hh => by
        have := ofNat_inj hx hc (by simpa using hh)
        subst this
        rw [Nat.beq_refl] at h
        cases h
      simp only [List.map_cons, Lib.indexByte, hne, Bool.false_eq_true, if_false]
      rw [posF_eq hc l (Nat.succ i) fun y hy => hb y (by simp [hy])]
      by_cases hm : Lib.indexByte (l.map UInt8.ofNat) (UInt8.ofNat c) = -1
      · simp [hm]
      · have hm' : (Lib.indexByte (l.map UInt8.ofNat) (UInt8.ofNat c) == -1) = false := by simpa using hm
        simp only [hm, hm', if_false, Bool.false_eq_true]
        rw [if_neg (by omega)]
        show _ + ((i + 1 : Nat) : Int) = _
        omega
section
variable {P : Program} {G : Nat}
theorem args1 {φ : Id → Option Plc} {x : AV} {ars : Array Value} (h : VL φ (.cons x .nil) ars.toList) : ∃ v, ars = #[v] ∧ VR φ x v := by
  obtain ⟨v, vs, e, h1, h2⟩ := h
  have : vs = [] := h2
  subst this
  exact ⟨v, by apply Array.ext'; simpa using e, h1⟩
theorem args2 {φ : Id → Option Plc} {x y : AV} {ars : Array Value} (h : VL φ (.cons x (.cons y .nil)) ars.toList) : ∃ v u, ars = #[v, u] ∧ VR φ x v ∧ VR φ y u := by
  obtain ⟨v, vs, e, h1, u, us, e2, h2, h3⟩ := h
  have : us = [] := h3
  subst this e2
  exact ⟨v, u, by apply Array.ext'; simpa using e, h1, h2⟩
variable {f : FuncId} {fn : Func}
noncomputable def entIndexByte (hf : P.funcs[f]? = some fn) (hname : (fn.name == "runtime.NumGoroutine") = false) (hb : fn.body.isNone = true) (hn : Extern.findNext fn = none) (he : Extern.find fn = some Extern.BytealgIndexByte.indexByte) : Ent P G :=
  .sum f (fun args hp k => match args with
    | .cons (.s l) (.cons (.i .u8 (.ofNat c)) .nil) => match Nat.blt c 256 with
      | true => k (.i .i64 (posF c l 0)) hp
      | false => none
    | _ => none) (fun args hp k r hr => by
    split at hr
    · rename_i l c
      split at hr
      · rename_i hc
        have hc' : c < 256 := by simpa [Nat.blt_eq] using hc
        refine ⟨_, hp, hr, fun φ B w ars g1 hw hargs => ?_⟩
        obtain ⟨v, u, rfl, ⟨e1, b1⟩, e2⟩ := args2 hargs
        have e2' : u = .int .u8 (Int.ofNat c) := e2
        subst e1 e2'
        refine .inr ⟨.int .i64 (posF c l 0), w, ?_, φ, rfl, Step.refl, hw⟩
        rw [run_callFunc_extern hf hname hb hn he]
        rw [show (#[Value.string (bytesOf l), Value.int .u8 (Int.ofNat c)] : Array Value) = #[.string (bytesOf l), .int .u8 ((c : Nat) : Int)] from rfl, Lib.run_indexByteString]
        have e3 : (bytesOf l).data.toList = l.map UInt8.ofNat := by simp [bytesOf]
        have e4 : ((c : Nat) : Int).toNat.toUInt8 = UInt8.ofNat c := by rw [Int.toNat_natCast]
        rw [e3, e4, posF_eq hc' l 0 b1]
        simp only [Result.andThen]
        congr 3
        split
        · rename_i hm; rw [hm]
        · simp
      · cases hr
    · cases hr)
noncomputable def entNoEscape (hf : P.funcs[f]? = some fn) (hname : (fn.name == "runtime.NumGoroutine") = false) (hb : fn.body.isNone = true) (hn : Extern.findNext fn = none) (he : Extern.find fn = some Extern.AbiNoEscape.same) : Ent P G :=
  .sum f (fun args hp k => match args with
    | .cons x .nil => k x hp
    | _ => none) (fun args hp k r hr => by
    split at hr
    · rename_i x
      refine ⟨_, hp, hr, fun φ B w ars g1 hw hargs => ?_⟩
      obtain ⟨v, rfl, hv⟩ := args1 hargs
      refine .inr ⟨v, w, ?_, φ, hv, Step.refl, hw⟩
      rw [run_callFunc_extern hf hname hb hn he]
      rfl
    · cases hr)
noncomputable def entMapsClone (hf : P.funcs[f]? = some fn) (hname : (fn.name == "runtime.NumGoroutine") = false) (hb : fn.body.isNone = true) (hn : Extern.findNext fn = none) (he : Extern.find fn = some Extern.MapsClone.clone) : Ent P G :=
  .sum f (fun args hp k => match args with
    | .cons (.ifc t (.mp r)) .nil => hp.on fun mem nx => onTab mem r fun l => match last nx with
      | true => none
      | false => k (.ifc t (.mp nx)) (.mk (mem.set nx (.tab l)) (inc nx))
    | _ => none) (fun args hp k x hr => by
    split at hr
    · rename_i t r
      cases hp with
      | mk mem nx =>
      obtain ⟨l, hl, h2⟩ := onTab_some (show onTab mem r _ = some x from hr)
      split at h2
      · cases h2
      · rename_i hlast
        refine ⟨_, _, h2, fun φ B w ars g1 hw hargs => ?_⟩
        obtain ⟨v, rfl, u, e1, g, hg, e2⟩ := args1 hargs
        subst e1 e2
        have hw' : WR φ B mem nx w := hw
        obtain ⟨ob, h7, es, c, h8, h9⟩ := hw'.blk r _ g hl hg
        subst h8
        obtain ⟨s1, s2⟩ := WR.new hw' hlast (x := .tab l) (o := .map es c) (K := 0) ⟨es, c, rfl, h9⟩ (.alloc _ _)
        refine .inr ⟨.iface t (.map (some w.heap.size)), _, ?_, _, ⟨.map (some w.heap.size), rfl, _, ext_same φ nx _, rfl⟩, s2, s1⟩
        rw [run_callFunc_extern hf hname hb hn he]
        have hdef : Extern.MapsClone.clone #[.iface t (.map (some g.1))] = (do
            match (← getObj g.1) with
            | .map entries clock => Pure.pure (.iface t (.map (some (← newObj (.map entries clock)))))
            | _ => stuck "maps.clone: a map expected") := rfl
        rw [hdef]
        simp [getObj, Sem.run, h7, newObj]
    · cases hr)
end
end Go.Proofs.YtobaebpmdimljaaGreatDoor.Clo
end
section
namespace Go.Proofs.YtobaebpmdimljaaGreatDoor.Clo
open Go.RowKit
set_option linter.unusedVariables false
set_option linter.unusedSimpArgs false
theorem num_dig (k : Nat) (r : Id) : num (dig k :: r) = 4 * num r + k % 4 := by
  have : k % 4 < 4 := Nat.mod_lt _ (by decide)
  rcases (by omega : k % 4 = 0 ∨ k % 4 = 1 ∨ k % 4 = 2 ∨ k % 4 = 3) with h | h | h | h <;> simp [dig, num, h]
theorem num_path : ∀ (f k : Nat), k < 4 ^ f → num (path f k) = k
  | 0, k, h => by simp at h; subst h; rfl
  | f + 1, k, h => by
    unfold path
    rw [num_dig, num_path f (k / 4) (by rw [Nat.pow_succ] at h; omega)]
    omega
theorem get_e (r : Id) : (T4.e : Mem).get r = none := by cases r <;> rfl
noncomputable def glob (G : Nat) (r : Id) : Option Plc := by
  classical
  exact if r.length = DB ∧ num r < G then some (num r, 0) else none
theorem glob_at {G g : Nat} (hG : G < 4 ^ DB) (hg : g < G) : glob G (path DB g) = some (g, 0) := by
  have := num_path DB g (Nat.lt_trans hg hG)
  unfold glob
  rw [if_pos ⟨path_len _ _, by rw [this]; exact hg⟩, this]
theorem glob_some {G : Nat} {r : Id} {g : Plc} (h : glob G r = some g) : r.length = DB ∧ num r < G ∧ g = (num r, 0) := by
  unfold glob at h
  split at h
  · rename_i h1; cases h; exact ⟨h1.1, h1.2, rfl⟩
  · cases h
theorem glob_start {G : Nat} (hG : G < 4 ^ DB) {w : World} (hw : G ≤ w.heap.size) : WR (glob G) (⟨w.heap.size, []⟩ : Bse []) .e (path DB G) w where
  len := path_len _ _
  fresh r hr := by
    rcases hr with hr | hr
    · exact absurd (get_e r) hr
    · cases e : glob G r with
      | none => exact absurd e hr
      | some g =>
        obtain ⟨h1, h2, _⟩ := glob_some e
        rw [num_path DB G hG]
        exact ⟨h1, h2⟩
  blk r x g hr := by rw [get_e] at hr; cases hr
  inj r r' x x' g g' hr := by rw [get_e] at hr; cases hr
  lt r g hg := by
    obtain ⟨_, h2, rfl⟩ := glob_some hg
    exact Nat.lt_of_lt_of_le h2 hw
  base r x g hr := by rw [get_e] at hr; cases hr
  bsz := Nat.le_refl _
  loops := trivial
section
variable {P : Program} {G : Nat}
noncomputable def runC (T : FTree P G) (fuel : Nat) (f : FuncId) (args : AV) : R := (Hd.c ⟨hdM T fuel, y0⟩) f args (.mk .e (path DB G)) (fun v hp => some (v, hp)) (fun _ _ => none)
theorem calls_of_run {T : FTree P G} {fuel : Nat} {f : FuncId} {args v : AV} {hp : HP} (hG : Nat.blt G (4 ^ DB) = true) (hc : ∀ (ars : Array Value) w, (callFunc f ars).run P w = .ok (.enter f ars) w) (h : runC T fuel f args = some (v, hp))
    (w : World) (hw : G ≤ w.heap.size) (ars : Array Value) (ha : ∀ φ, VL φ args ars.toList) : Calls P f ars w fun e w' => ∃ v', e = .returned v' ∧ (∃ φ, VR φ v v') ∧ Below w.heap.size w w' := by
  have hG' : G < 4 ^ DB := by simpa [Nat.blt_eq] using hG
  rcases (hd0_ok T fuel).c f args _ _ _ _ h with ⟨v1, hp1, h1, h2⟩ | ⟨v1, hp1, h1, h2⟩
  · cases h1
    have h0 : WH (glob G) (⟨w.heap.size, []⟩ : Bse []) (.mk .e (path DB G)) w := glob_start hG' hw
    rcases h2 (glob G) ⟨w.heap.size, []⟩ w ars (fun g hg => ⟨0, glob_at hG' hg⟩) h0 (ha _) with ⟨_, h3⟩ | ⟨v2, w2, h3, _⟩
    · refine h3.mono fun e w' ⟨v', e1, ψ, h4, h5, h6⟩ => ⟨v', e1, ⟨ψ, h4⟩, ?_⟩
      exact Step.below h0 h5
    · rw [hc ars w] at h3
      cases h3
  · cases h1
end
end Go.Proofs.YtobaebpmdimljaaGreatDoor.Clo
end
section
namespace Go.Proofs.YtobaebpmdimljaaGreatDoor.Clo
open Go.RowKit
set_option linter.unusedVariables false
set_option linter.unusedSimpArgs false
set_option linter.constructorNameAsVariable false
def AV.plain : AV → Bool
  | .nil | .inil | .fnil | .mn | .sn | .pn | .s _ | .b _ | .i _ _ => true
  | .cons x r => x.plain && r.plain
  | .tu l => l.plain
  | .ag l => l.plain
  | _ => false
theorem AV.plain_says {φ ψ : Id → Option Plc} : ∀ {x : AV}, x.plain = true → x.says φ = x.says ψ
  | .u, h => by cases h
  | .nil, h => rfl
  | .cons x r, h => by
    simp only [AV.plain, Bool.and_eq_true] at h
    simp only [AV.says]
    rw [AV.plain_says (ψ := ψ) h.1, AV.plain_says (ψ := ψ) h.2]
  | .inil, h => rfl
  | .ifc t x, h => by cases h
  | .fnil, h => rfl
  | .fn _ _ _, h => by cases h
  | .mn, h => rfl
  | .mp _, h => by cases h
  | .tu l, h => by
    simp only [AV.says]
    rw [AV.plain_says (ψ := ψ) (show l.plain = true from h)]
  | .ag l, h => by
    simp only [AV.says]
    rw [AV.plain_says (ψ := ψ) (show l.plain = true from h)]
  | .sn, h => rfl
  | .sl _ _ _ _, h => by cases h
  | .sg _ _ _ _, h => by cases h
  | .pn, h => rfl
  | .p _ _, h => by cases h
  | .s _, h => rfl
  | .b _, h => rfl
  | .i _ _, h => rfl
noncomputable def listSame (l m : List Nat) : Bool :=
  List.rec (motive := fun _ => List Nat → Bool) (fun m => match m with | [] => true | _ => false) (fun x _ ih m => match m with | y :: m => Bool.rec (motive := fun _ => Bool) false (ih m) (Nat.beq x y) | _ => false) l m
theorem listSame_eq : ∀ {l m : List Nat}, listSame l m = true → l = m
  | [], [], _ => rfl
  | [], _ :: _, h => by cases h
  | _ :: _, [], h => by cases h
  | x :: l, y :: m, h => by
    have h' : (Bool.rec (motive := fun _ => Bool) false (listSame l m) (Nat.beq x y) : Bool) = true := h
    cases hb : Nat.beq x y with
    | false => rw [hb] at h'; cases h'
    | true =>
      rw [hb] at h'
      rw [Nat.eq_of_beq_eq_true hb, listSame_eq h']
noncomputable def AV.same : AV → AV → Bool
  | .nil, .nil => true
  | .inil, .inil => true
  | .fnil, .fnil => true
  | .mn, .mn => true
  | .sn, .sn => true
  | .pn, .pn => true
  | .s l, .s m => listSame l m
  | .b x, .b y => x == y
  | .i k n, .i j m => decide (k = j) && decide (n = m)
  | .cons x r, .cons y q => x.same y && r.same q
  | .tu l, .tu m => l.same m
  | .ag l, .ag m => l.same m
  | _, _ => false
theorem AV.same_eq : ∀ {x y : AV}, x.same y = true → x = y := by
  intro x
  induction x with
  | cons x r ihx ihr =>
    intro y h
    cases y <;> simp only [AV.same, Bool.false_eq_true, Bool.and_eq_true] at h
    rw [ihx h.1, ihr h.2]
  | tu l ih =>
    intro y h
    cases y <;> simp only [AV.same, Bool.false_eq_true] at h
    rw [ih h]
  | ag l ih =>
    intro y h
    cases y <;> simp only [AV.same, Bool.false_eq_true] at h
    rw [ih h]
  | s l =>
    intro y h
    cases y <;> simp only [AV.same, Bool.false_eq_true] at h
    rw [listSame_eq h]
  | _ =>
    intro y h
    cases y <;> simp_all [AV.same]
noncomputable def keyS (l : List Nat) (acc : Nat) : Nat := List.rec (motive := fun _ => Nat → Nat) (fun acc => acc) (fun x _ ih acc => ih (Nat.add (Nat.mul acc 257) (Nat.succ x))) l acc
noncomputable def AV.key : AV → Nat → Nat
  | .s l, acc => keyS l (Nat.succ acc)
  | .b x, acc => Bool.rec (Nat.mul acc 3) (Nat.add (Nat.mul acc 3) 1) x
  | .i _ n, acc => Nat.add (Nat.mul acc 1000003) (Int.natAbs n)
  | .cons x r, acc => r.key (x.key acc)
  | .tu l, acc => l.key acc
  | .ag l, acc => l.key acc
  | _, acc => acc
inductive MTree where
  | leaf
  | node (l : MTree) (n : Nat) (args v : AV) (r : MTree)
noncomputable def MTree.find (n : Nat) (args : AV) (T : MTree) : Option AV :=
  MTree.rec (motive := fun _ => Option AV) none (fun _ j a v _ ihl ihr => Bool.rec (motive := fun _ => Option AV) (Bool.rec (motive := fun _ => Option AV) (Bool.rec (motive := fun _ => Option AV) none (some v) (a.same args)) ihr (Nat.blt j n)) ihl (Nat.blt n j)) T
section
variable {P : Program} {G : Nat}
noncomputable def runIs (T : FTree P G) (fuel : Nat) (f : FuncId) (args v : AV) : Bool := match runC T fuel f args with
  | some (v', _) => v'.same v
  | none => false
noncomputable def MTree.all (Q : AV → AV → Bool) : MTree → Bool
  | .leaf => true
  | .node l _ a v r => l.all Q && (Q a v && r.all Q)
theorem MTree.find_some {Q : AV → AV → Bool} {n : Nat} {args v : AV} : ∀ {T : MTree}, T.all Q = true → T.find n args = some v → Q args v = true
  | .leaf, _, h => by cases h
  | .node l j a u r, h, k => by
    simp only [MTree.all, Bool.and_eq_true] at h
    have k' : (Bool.rec (motive := fun _ => Option AV) (Bool.rec (motive := fun _ => Option AV) (Bool.rec (motive := fun _ => Option AV) none (some u) (a.same args)) (r.find n args) (Nat.blt j n)) (l.find n args) (Nat.blt n j) : Option AV) = some v := k
    cases h1 : Nat.blt n j with
    | true => rw [h1] at k'; exact MTree.find_some h.1 k'
    | false =>
      rw [h1] at k'
      cases h2 : Nat.blt j n with
      | true => rw [h2] at k'; exact MTree.find_some h.2.2 k'
      | false =>
        rw [h2] at k'
        cases h3 : a.same args with
        | false => rw [h3] at k'; cases k'
        | true =>
          rw [h3] at k'
          have := AV.same_eq h3
          cases k'
          subst this
          exact h.2.1
noncomputable def known (T : FTree P G) (fuel : Nat) (f : FuncId) (args v : AV) : Bool := args.plain && (v.plain && runIs T fuel f args v)
theorem WR.below {φ : Id → Option Plc} {sts : List Site} {B : Bse sts} {h : Mem} {nx : Id} {w w' : World} (hw : WR φ B h nx w) (k : Below w.heap.size w w') : WR φ B h nx w' ∧ Step φ h nx w φ h nx w' where
  left := ⟨hw.len, hw.fresh, fun r x g h1 h2 => by rw [k.block g.1 (hw.lt r g h2)]; exact hw.blk r x g h1 h2, hw.inj, fun r g h => Nat.lt_of_lt_of_le (hw.lt r g h) k.size, hw.base, Nat.le_trans hw.bsz k.size, hw.loops.mono (.refl _) (LK.same k.block)⟩
  right := ⟨.refl _, k.os, k.tape, k.output, k.size, fun g hg _ => k.block g hg, fun _ _ h => h, fun _ _ h k => ⟨h, k⟩, Nat.le_refl _, fun _ _ _ => rfl, LK.same k.block⟩
theorem Glo.size {φ : Id → Option Plc} {sts : List Site} {B : Bse sts} {h : Mem} {nx : Id} {w : World} (g : Glo G φ) (hw : WR φ B h nx w) : G ≤ w.heap.size := by
  cases G with
  | zero => exact Nat.zero_le _
  | succ n =>
    obtain ⟨K, e⟩ := g n (Nat.lt_succ_self n)
    exact hw.lt _ _ e
noncomputable def Ent.memo {T : FTree P G} {fuel : Nat} (e : Ent P G) (M : MTree) (hG : Nat.blt G (4 ^ DB) = true) (hc : ∀ (ars : Array Value) w, (callFunc e.f ars).run P w = .ok (.enter e.f ars) w) (h : M.all (known T fuel e.f) = true) : Ent P G :=
  ⟨e.f, .mk fun hd args hp k kp => Option.rec (motive := fun _ => R) (e.m.run hd args hp k kp) (fun v => k v hp) (M.find (args.key 1) args), e.d, (fun hd hok args hp k kp r hr => by
    have hr' : (Option.rec (motive := fun _ => R) (e.m.run hd args hp k kp) (fun v => k v hp) (M.find (args.key 1) args) : R) = some r := hr
    cases hf : M.find (args.key 1) args with
    | none => rw [hf] at hr'; exact e.ok hd hok args hp k kp r hr'
    | some v =>
      rw [hf] at hr'
      have hk := MTree.find_some h hf
      simp only [known, Bool.and_eq_true] at hk
      obtain ⟨p1, p2, p3⟩ := hk
      unfold runIs at p3
      split at p3
      · rename_i v' hp' hrun
        have := AV.same_eq p3
        subst this
        cases hp with
        | mk m nx =>
        refine .inl ⟨_, _, hr', fun φ B w ars g1 hw hargs => .inl ⟨hc ars w, ?_⟩⟩
        have hw' : WR φ B m nx w := hw
        refine (calls_of_run hG hc hrun w (g1.size hw') ars fun ψ => ?_).mono fun e' w' ⟨u, e1, ⟨ψ, h1⟩, h2⟩ => ?_
        · show (args.says ψ).2 _
          rw [AV.plain_says (ψ := φ) p1]
          exact hargs
        · obtain ⟨s1, s2⟩ := hw'.below h2
          refine ⟨u, e1, φ, ?_, s2, s1⟩
          show (AV.says φ _).1 _
          rw [AV.plain_says (ψ := ψ) p2]
          exact h1
      · cases p3), e.okD, true, fun _ => hc⟩
end
end Go.Proofs.YtobaebpmdimljaaGreatDoor.Clo
end
