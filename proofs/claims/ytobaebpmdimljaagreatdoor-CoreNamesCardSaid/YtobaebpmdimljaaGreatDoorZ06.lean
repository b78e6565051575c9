/- Part 6 of a proof laid in parts, one behind the other; no condition of its own. -/
import Derived.Test.YtobaebpmdimljaaGreatDoorZ05
import Derived.RangeFuncRecord
import Derived.Scope
set_option linter.all false
section
namespace Go.Proofs.YtobaebpmdimljaaGreatDoor.Clo
open Go.RowKit
set_option linter.unusedVariables false
set_option linter.unusedSimpArgs false
inductive HP where | mk (m : Mem) (nx : Id)
def HP.m : HP → Mem | .mk m _ => m
def HP.nx : HP → Id | .mk _ n => n
abbrev R := Option (AV × HP)
abbrev Env := List AV
abbrev Tr := T4 AV
abbrev KV := AV → HP → R
abbrev KP := AV → HP → R
inductive Ex where | normal | exit (i : Nat) | ret | pan (v : AV)
abbrev KC := Ex → Tr → HP → R
structure Ys where
  s : List Site
  on : Bool
  f : Id → AV → HP → KV → R
structure HdB where
  c : Ys → FuncId → AV → HP → KV → KP → R
  d : Ys → FuncId → AV → AV → HP → KV → R
  e : FuncId → Bool
structure Hd where
  b : HdB
  y : Ys
noncomputable def Hd.c (h : Hd) : FuncId → AV → HP → KV → KP → R := h.b.c h.y
noncomputable def Hd.d (h : Hd) : FuncId → AV → AV → HP → KV → R := h.b.d h.y
inductive GV where | mk (f : Env → Tr → AV)
inductive OM where | mk (f : Hd → Env → Tr → HP → KV → KP → R)
inductive RM where | mk (f : Hd → Env → Tr → HP → KC → R)
inductive CM where | mk (f : Hd → Tr → HP → KC → R)
inductive FM where | mk (f : Hd → AV → HP → KV → KP → R)
noncomputable def GV.run (g : GV) : Env → Tr → AV := GV.rec (fun f => f) g
noncomputable def OM.run (g : OM) : Hd → Env → Tr → HP → KV → KP → R := OM.rec (fun f => f) g
noncomputable def RM.run (g : RM) : Hd → Env → Tr → HP → KC → R := RM.rec (fun f => f) g
noncomputable def CM.run (g : CM) : Hd → Tr → HP → KC → R := CM.rec (fun f => f) g
noncomputable def FM.run (g : FM) : Hd → AV → HP → KV → KP → R := FM.rec (fun f => f) g
noncomputable def AV.on_ifc (a : AV) (k : TypeId → AV → R) : R := AV.rec (motive := fun _ => R) none none (fun _ _ _ _ => none) none (fun x0 x1 _ => k x0 x1) none (fun _ _ _ _ _ => none) none (fun _ => none) (fun _ _ => none) (fun _ _ => none) none (fun _ _ _ _ => none) (fun _ _ _ _ => none) (fun _ => none) (fun _ => none) none (fun _ _ => none) (fun _ => none) (fun _ => none) (fun _ _ => none) a
theorem AV.on_ifc_some {a : AV} {k : TypeId → AV → R} {r : AV × HP} (h : a.on_ifc k = some r) : ∃ x0 x1, a = .ifc x0 x1 ∧ k x0 x1 = some r := by
  cases a <;> first | exact ⟨_, _, rfl, h⟩ | cases h
noncomputable def AV.on_fn (a : AV) (k : Fn → AV → AV → R) : R := AV.rec (motive := fun _ => R) none none (fun _ _ _ _ => none) none (fun _ _ _ => none) none (fun x0 x1 x2 _ _ => k x0 x1 x2) none (fun _ => none) (fun _ _ => none) (fun _ _ => none) none (fun _ _ _ _ => none) (fun _ _ _ _ => none) (fun _ => none) (fun _ => none) none (fun _ _ => none) (fun _ => none) (fun _ => none) (fun _ _ => none) a
theorem AV.on_fn_some {a : AV} {k : Fn → AV → AV → R} {r : AV × HP} (h : a.on_fn k = some r) : ∃ x0 x1 x2, a = .fn x0 x1 x2 ∧ k x0 x1 x2 = some r := by
  cases a <;> first | exact ⟨_, _, _, rfl, h⟩ | cases h
noncomputable def AV.on_mp (a : AV) (k : Id → R) : R := AV.rec (motive := fun _ => R) none none (fun _ _ _ _ => none) none (fun _ _ _ => none) none (fun _ _ _ _ _ => none) none k (fun _ _ => none) (fun _ _ => none) none (fun _ _ _ _ => none) (fun _ _ _ _ => none) (fun _ => none) (fun _ => none) none (fun _ _ => none) (fun _ => none) (fun _ => none) (fun _ _ => none) a
theorem AV.on_mp_some {a : AV} {k : Id → R} {r : AV × HP} (h : a.on_mp k = some r) : ∃ x0, a = .mp x0 ∧ k x0 = some r := by
  cases a <;> first | exact ⟨_, rfl, h⟩ | cases h
noncomputable def AV.on_tu (a : AV) (k : AV → R) : R := AV.rec (motive := fun _ => R) none none (fun _ _ _ _ => none) none (fun _ _ _ => none) none (fun _ _ _ _ _ => none) none (fun _ => none) (fun x0 _ => k x0) (fun _ _ => none) none (fun _ _ _ _ => none) (fun _ _ _ _ => none) (fun _ => none) (fun _ => none) none (fun _ _ => none) (fun _ => none) (fun _ => none) (fun _ _ => none) a
theorem AV.on_tu_some {a : AV} {k : AV → R} {r : AV × HP} (h : a.on_tu k = some r) : ∃ x0, a = .tu x0 ∧ k x0 = some r := by
  cases a <;> first | exact ⟨_, rfl, h⟩ | cases h
noncomputable def AV.on_ag (a : AV) (k : AV → R) : R := AV.rec (motive := fun _ => R) none none (fun _ _ _ _ => none) none (fun _ _ _ => none) none (fun _ _ _ _ _ => none) none (fun _ => none) (fun _ _ => none) (fun x0 _ => k x0) none (fun _ _ _ _ => none) (fun _ _ _ _ => none) (fun _ => none) (fun _ => none) none (fun _ _ => none) (fun _ => none) (fun _ => none) (fun _ _ => none) a
theorem AV.on_ag_some {a : AV} {k : AV → R} {r : AV × HP} (h : a.on_ag k = some r) : ∃ x0, a = .ag x0 ∧ k x0 = some r := by
  cases a <;> first | exact ⟨_, rfl, h⟩ | cases h
noncomputable def AV.on_p (a : AV) (k : Id → Nat → R) : R := AV.rec (motive := fun _ => R) none none (fun _ _ _ _ => none) none (fun _ _ _ => none) none (fun _ _ _ _ _ => none) none (fun _ => none) (fun _ _ => none) (fun _ _ => none) none (fun _ _ _ _ => none) (fun _ _ _ _ => none) (fun _ => none) (fun _ => none) none k (fun _ => none) (fun _ => none) (fun _ _ => none) a
theorem AV.on_p_some {a : AV} {k : Id → Nat → R} {r : AV × HP} (h : a.on_p k = some r) : ∃ x0 x1, a = .p x0 x1 ∧ k x0 x1 = some r := by
  cases a <;> first | exact ⟨_, _, rfl, h⟩ | cases h
noncomputable def AV.on_s (a : AV) (k : List Nat → R) : R := AV.rec (motive := fun _ => R) none none (fun _ _ _ _ => none) none (fun _ _ _ => none) none (fun _ _ _ _ _ => none) none (fun _ => none) (fun _ _ => none) (fun _ _ => none) none (fun _ _ _ _ => none) (fun _ _ _ _ => none) (fun _ => none) (fun _ => none) none (fun _ _ => none) k (fun _ => none) (fun _ _ => none) a
theorem AV.on_s_some {a : AV} {k : List Nat → R} {r : AV × HP} (h : a.on_s k = some r) : ∃ x0, a = .s x0 ∧ k x0 = some r := by
  cases a <;> first | exact ⟨_, rfl, h⟩ | cases h
noncomputable def AV.on_b (a : AV) (k : Bool → R) : R := AV.rec (motive := fun _ => R) none none (fun _ _ _ _ => none) none (fun _ _ _ => none) none (fun _ _ _ _ _ => none) none (fun _ => none) (fun _ _ => none) (fun _ _ => none) none (fun _ _ _ _ => none) (fun _ _ _ _ => none) (fun _ => none) (fun _ => none) none (fun _ _ => none) (fun _ => none) k (fun _ _ => none) a
theorem AV.on_b_some {a : AV} {k : Bool → R} {r : AV × HP} (h : a.on_b k = some r) : ∃ x0, a = .b x0 ∧ k x0 = some r := by
  cases a <;> first | exact ⟨_, rfl, h⟩ | cases h
noncomputable def AV.on_i (a : AV) (k : IntKind → Int → R) : R := AV.rec (motive := fun _ => R) none none (fun _ _ _ _ => none) none (fun _ _ _ => none) none (fun _ _ _ _ _ => none) none (fun _ => none) (fun _ _ => none) (fun _ _ => none) none (fun _ _ _ _ => none) (fun _ _ _ _ => none) (fun _ => none) (fun _ => none) none (fun _ _ => none) (fun _ => none) (fun _ => none) k a
theorem AV.on_i_some {a : AV} {k : IntKind → Int → R} {r : AV × HP} (h : a.on_i k = some r) : ∃ x0 x1, a = .i x0 x1 ∧ k x0 x1 = some r := by
  cases a <;> first | exact ⟨_, _, rfl, h⟩ | cases h
noncomputable def getT (p : Id) : Tr → AV :=
  List.rec (motive := fun _ => Tr → AV) (fun t => T4.rec (motive := fun _ => AV) .u (fun v => v) (fun _ _ _ _ _ _ _ _ => .u) t)
    (fun q _ ih t => T4.rec (motive := fun _ => AV) .u (fun _ => .u) (fun a b c d _ _ _ _ => ih (D4.rec a b c d q)) t) p
theorem getT_get : ∀ (p : Id) (t : Tr), getT p t = (t.get p).getD .u
  | [], t => by cases t <;> rfl
  | q :: p, t => by cases t <;> first | rfl | exact getT_get p _
noncomputable def envAt (n : Nat) : Env → AV :=
  Nat.rec (motive := fun _ => Env → AV) (fun e => List.rec (motive := fun _ => AV) .u (fun v _ _ => v) e) (fun _ ih e => List.rec (motive := fun _ => AV) .u (fun _ r _ => ih r) e) n
def idx (d : Nat) : List (Option Nat) → Option Nat
  | [] => none
  | x :: r => if x = some d then some 0 else (idx d r).map (· + 1)
def DfR (φ : Id → Option Plc) : AV → List Deferred → Prop
  | .u, l => l = []
  | .cons (.cons (.fn (.func f) first cap) args) r, l => ∃ (us ys ars : Array Value) (ds : List Deferred), l = { target := .fn (.func f) ys, args := us ++ ars } :: ds ∧ VL φ first us.toList ∧ VL φ cap ys.toList ∧ VL φ args ars.toList ∧ DfR φ r ds
  | .cons (.mp q) r, l => ∃ (g : Plc) (ds : List Deferred), φ q = some g ∧ l = { target := .collected g.1, args := #[] } :: ds ∧ DfR φ r ds
  | _, _ => False
theorem DfR.more {φ ψ : Id → Option Plc} (k : More φ ψ) : ∀ {x : AV} {l : List Deferred}, DfR φ x l → DfR ψ x l
  | .u, l, h => h
  | .cons (.cons (.fn (.func f) first cap) args) r, l, ⟨us, ys, ars, ds, e, h1, h2, h3, h4⟩ => ⟨us, ys, ars, ds, e, h1.more k, h2.more k, h3.more k, DfR.more k h4⟩
  | .cons (.mp q) r, l, ⟨g, ds, h1, e, h4⟩ => ⟨g, ds, k _ _ h1, e, DfR.more k h4⟩
structure FR (φ : Id → Option Plc) (dt n : Nat) (lo : Nat → Bool) (t : Tr) (a : Act) : Prop where
  sz : a.tmps.size = n
  cap : n < 4 ^ dt
  at' : ∀ d, d < n → VR φ (getT (path dt d) t) (a.tmps.getD d undef)
  lo : ∀ d, d < n → lo d = true → getT (path dt d) t = .u
  df : DfR φ (getT (path dt n) t) a.defers
def EnvR (φ : Id → Option Plc) (ds : List (Option Nat)) (e : Env) (tmps : Array Value) : Prop := ∀ d j, idx d ds = some j → VR φ (envAt j e) (tmps.getD d undef)
def Glo (G : Nat) (φ : Id → Option Plc) : Prop := ∀ g, g < G → ∃ K, φ (path DB g) = some (g, K)
theorem Glo.more {G : Nat} {φ ψ : Id → Option Plc} (h : Glo G φ) (k : More φ ψ) : Glo G ψ := fun g hg => let ⟨K, e⟩ := h g hg; ⟨K, k _ _ e⟩
theorem FR.more {φ ψ : Id → Option Plc} {dt n : Nat} {lo : Nat → Bool} {t : Tr} {a : Act} (h : FR φ dt n lo t a) (k : More φ ψ) : FR ψ dt n lo t a := ⟨h.sz, h.cap, fun d hd => (h.at' d hd).more k, h.lo, h.df.more k⟩
theorem EnvR.more {φ ψ : Id → Option Plc} {ds : List (Option Nat)} {e : Env} {tmps : Array Value} (h : EnvR φ ds e tmps) (k : More φ ψ) : EnvR ψ ds e tmps := fun d j hj => (h d j hj).more k
theorem EnvR.nil (φ : Id → Option Plc) (e : Env) (tmps : Array Value) : EnvR φ [] e tmps := fun d j hj => by cases hj
def ofCell : Value → AV
  | .bool b => .b b
  | .int k n => .i k n
  | .string s => .s (s.data.toList.map UInt8.toNat)
  | .pointer none => .pn
  | .slice none 0 0 => .sn
  | .map none => .mn
  | .nilFunc => .fnil
  | .nilIface => .inil
  | _ => .u
def ofList : List Value → AV
  | [] => .nil
  | v :: r => .cons (ofCell v) (ofList r)
def ofConst : Value → AV
  | .agg cs => .ag (ofList cs.toList)
  | .tuple cs => .tu (ofList cs.toList)
  | v => ofCell v
theorem bytes_back (s : ByteArray) : bytesOf (s.data.toList.map UInt8.toNat) = s := by
  unfold bytesOf
  rw [List.map_map, show UInt8.ofNat ∘ UInt8.toNat = id from funext fun x => UInt8.ofNat_toNat, List.map_id]
theorem ofCell_ok (φ : Id → Option Plc) (v : Value) : VR φ (ofCell v) v := by
  unfold ofCell
  split <;> first | exact trivial | exact rfl | exact ⟨by rw [bytes_back], fun x hx => by obtain ⟨y, _, rfl⟩ := List.mem_map.1 hx; exact y.toNat_lt⟩
theorem ofList_ok (φ : Id → Option Plc) : ∀ l : List Value, VL φ (ofList l) l
  | [] => rfl
  | v :: r => ⟨v, r, rfl, ofCell_ok φ v, ofList_ok φ r⟩
theorem ofConst_ok (φ : Id → Option Plc) (v : Value) : VR φ (ofConst v) v := by
  unfold ofConst
  split
  · exact ⟨_, rfl, ofList_ok φ _⟩
  · exact ⟨_, rfl, ofList_ok φ _⟩
  · exact ofCell_ok φ _
section
variable (G dt n : Nat) (lo : Nat → Bool)
noncomputable def opd (ds : List (Option Nat)) : Operand → GV
  | .tmp d => match idx d ds with
    | some j => .mk fun e _ => envAt j e
    | none => if d < n then .mk fun _ t => getT (path dt d) t else .mk fun _ _ => .u
  | .const v => .mk fun _ _ => ofConst v
  | .global g => if g < G then .mk fun _ _ => .p (path DB g) 0 else .mk fun _ _ => .u
  | .func f => .mk fun _ _ => .fn (.func f) .nil .nil
variable {G dt n lo}
theorem opd_ok {φ : Id → Option Plc} {ds : List (Option Nat)} {e : Env} {t : Tr} {a : Act} (hg : Glo G φ) (hf : FR φ dt n lo t a) (he : EnvR φ ds e a.tmps) (x : Operand) : VR φ ((opd G dt n ds x).run e t) (a.eval x) := by
  cases x with
  | tmp d =>
    cases hj : idx d ds with
    | some j =>
      have h1 : opd G dt n ds (.tmp d) = .mk fun e _ => envAt j e := by simp only [opd, hj]
      rw [h1]
      exact he d j hj
    | none =>
      by_cases hd : d < n
      · have h1 : opd G dt n ds (.tmp d) = .mk fun _ t => getT (path dt d) t := by simp only [opd, hj, hd, if_true]
        rw [h1]
        exact hf.at' d hd
      · have h1 : opd G dt n ds (.tmp d) = .mk fun _ _ => .u := by simp only [opd, hj, hd, if_false]
        rw [h1]
        exact trivial
  | const v => exact ofConst_ok φ v
  | func f => exact ⟨#[], #[], rfl, rfl, rfl⟩
  | _ =>
    rename_i g
    by_cases h : g < G
    · have h1 : opd G dt n ds (.global g) = .mk fun _ _ => .p (path DB g) 0 := by simp only [opd, h, if_true]
      rw [h1]
      obtain ⟨K, e⟩ := hg g h
      exact ⟨(g, K), e, rfl⟩
    · have h1 : opd G dt n ds (.global g) = .mk fun _ _ => .u := by simp only [opd, h, if_false]
      rw [h1]
      exact trivial
end
section
variable {φ : Id → Option Plc} {dt n : Nat} {lo : Nat → Bool} {t : Tr} {a : Act} {ds : List (Option Nat)} {e : Env} {v : AV} {v' : Value}
theorem getD_put_same {d : Nat} (h : d < a.tmps.size) : (a.put (some d) v').tmps.getD d undef = v' := by
  simp [Act.put, Array.getD_eq_getD_getElem?, Array.getElem?_setIfInBounds, h]
theorem getD_put_other {d k : Nat} (h : d ≠ k) : (a.put (some d) v').tmps.getD k undef = a.tmps.getD k undef := by
  simp [Act.put, Array.getD_eq_getD_getElem?, Array.getElem?_setIfInBounds, h]
theorem FR.put_none (hf : FR φ dt n lo t a) : FR φ dt n lo t (a.put none v') := hf
theorem FR.put_lo (hf : FR φ dt n lo t a) {d : Nat} (hd : d < n) (hl : lo d = true) : FR φ dt n lo t (a.put (some d) v') := by
  refine ⟨by simpa [Act.put] using hf.sz, hf.cap, fun k hk => ?_, hf.lo, hf.df⟩
  by_cases h : d = k
  · subst h; rw [hf.lo d hk hl]; exact trivial
  · rw [getD_put_other h]; exact hf.at' k hk
theorem FR.put (hf : FR φ dt n lo t a) {d : Nat} (hd : d < n) (hl : lo d = false) (hv : VR φ v v') : FR φ dt n lo (t.set (path dt d) v) (a.put (some d) v') := by
  have ne : ∀ k, k ≤ n → d ≠ k → path dt k ≠ path dt d := fun k hk h e => h (path_inj dt k d (Nat.lt_of_le_of_lt hk hf.cap) (Nat.lt_trans hd hf.cap) e).symm
  refine ⟨by simpa [Act.put] using hf.sz, hf.cap, fun k hk => ?_, fun k hk hl' => ?_, ?_⟩
  · by_cases h : d = k
    · subst h; rw [getT_get, T4.get_set_same, getD_put_same (by rw [hf.sz]; exact hd)]; exact hv
    · have hp := ne k (Nat.le_of_lt hk) h
      rw [getT_get, T4.get_set_other v _ _ _ (by rw [path_len, path_len]) hp, getD_put_other h, ← getT_get]
      exact hf.at' k hk
  · have h : d ≠ k := fun e => by subst e; rw [hl] at hl'; cases hl'
    have hp := ne k (Nat.le_of_lt hk) h
    rw [getT_get, T4.get_set_other v _ _ _ (by rw [path_len, path_len]) hp, ← getT_get]
    exact hf.lo k hk hl'
  · have hp := ne n (Nat.le_refl n) (Nat.ne_of_lt hd)
    rw [getT_get, T4.get_set_other v _ _ _ (by rw [path_len, path_len]) hp, ← getT_get]
    exact hf.df
theorem EnvR.put (he : EnvR φ ds e a.tmps) (hv : VR φ v v') (dst : Option Nat) (hd : ∀ d, dst = some d → d < a.tmps.size) : EnvR φ (dst :: ds) (v :: e) (a.put dst v').tmps := fun d j hj => by
  unfold idx at hj
  split at hj
  · rename_i h
    subst h
    simp only [Option.some.injEq] at hj
    subst hj
    rw [getD_put_same (hd d rfl)]
    exact hv
  · rename_i h
    obtain ⟨j', hj', rfl⟩ := Option.map_eq_some_iff.1 hj
    have := he d j' hj'
    cases dst with
    | none => exact this
    | some d' => rw [getD_put_other (fun e => h (by rw [e]))]; exact this
end
abbrev WH (φ : Id → Option Plc) {sts : List Site} (B : Bse sts) (hp : HP) (w : World) : Prop := WR φ B hp.m hp.nx w
abbrev RH (φ : Id → Option Plc) (hp : HP) (w : World) : Prop := RW φ hp.m w
abbrev StH (φ : Id → Option Plc) (hp : HP) (w : World) (ψ : Id → Option Plc) (hp' : HP) (w' : World) : Prop := Step φ hp.m hp.nx w ψ hp'.m hp'.nx w'
def one (v : Value) : List PanicEntry := [{ v, recovered := false }]
def CallOk (P : Program) (f : FuncId) (ars : Array Value) (w : World) (Q : Value → World → Prop) : Prop :=
  ((callFunc f ars).run P w = .ok (.enter f ars) w ∧ Calls P f ars w fun e w' => ∃ v, e = .returned v ∧ Q v w') ∨ ∃ v w', (callFunc f ars).run P w = .ok (.value v) w' ∧ Q v w'
def CallPan (P : Program) (f : FuncId) (ars : Array Value) (w : World) (Q : Value → World → Prop) : Prop :=
  (callFunc f ars).run P w = .ok (.enter f ars) w ∧ Calls P f ars w fun e w' => ∃ v, e = .panicked (one v) ∧ Q v w'
def Aft (φ : Id → Option Plc) {sts : List Site} (B : Bse sts) (hp : HP) (w : World) (v : AV) (hp' : HP) (v' : Value) (w' : World) : Prop := ∃ ψ, VR ψ v v' ∧ StH φ hp w ψ hp' w' ∧ WH ψ B hp' w'
def ModeR (φ : Id → Option Plc) : AV → FrameMode → Prop
  | .nil, u => u = .returning
  | .cons v .nil, u => ∃ v', u = .panicking (one v') ∧ VR φ v v'
  | _, _ => False
def HdOkC (P : Program) (G : Nat) (hd : Hd) : Prop := ∀ f args hp k kp r, hd.c f args hp k kp = some r →
  (∃ v hp', k v hp' = some r ∧ ∀ φ (B : Bse hd.y.s) w (ars : Array Value), Glo G φ → WH φ B hp w → VL φ args ars.toList → CallOk P f ars w (Aft φ B hp w v hp')) ∨
  (∃ v hp', kp v hp' = some r ∧ ∀ φ (B : Bse hd.y.s) w (ars : Array Value), Glo G φ → WH φ B hp w → VL φ args ars.toList → CallPan P f ars w (Aft φ B hp w v hp'))
def HdOkD (P : Program) (G : Nat) (hd : Hd) : Prop := ∀ f args md hp k r, hd.d f args md hp k = some r → ∃ md' hp', k md' hp' = some r ∧ ∀ φ (B : Bse hd.y.s) w (ars : Array Value) u, Glo G φ → WH φ B hp w → VL φ args ars.toList → ModeR φ md u →
  (callFunc f ars).run P w = .ok (.enter f ars) w ∧ CallsD P f ars u w fun e u' w' => (∃ v, e = .returned v) ∧ ∃ ψ, ModeR ψ md' (settle u') ∧ StH φ hp w ψ hp' w' ∧ WH ψ B hp' w'
def RoundOk (P : Program) (l : Nat) (ars : Array Value) (w : World) (Q : Value → World → Prop) : Prop :=
  ∃ f tmps as' bd, (Instr.yield l ars).run P w = .ok (.round l f tmps as' bd) w ∧ RoundIn Fence.wide 0 P l f tmps as' bd w fun e w' => ∃ v, e = .returned v ∧ Q v w'
def YOk (P : Program) (G : Nat) (y : Ys) : Prop := ∀ r args hp k res, y.f r args hp k = some res → ∃ v hp', k v hp' = some res ∧ ∀ φ (B : Bse y.s) w (ars : Array Value) g, Glo G φ → WH φ B hp w → VL φ args ars.toList → φ r = some g → RoundOk P g.1 ars w (Aft φ B hp w v hp')
def HdOkB (P : Program) (G : Nat) (b : HdB) : Prop := (∀ y, YOk P G y → HdOkC P G ⟨b, y⟩ ∧ HdOkD P G ⟨b, y⟩) ∧ ∀ f, b.e f = true → ∀ (ars : Array Value) w, (callFunc f ars).run P w = .ok (.enter f ars) w
def HdOk (P : Program) (G : Nat) (hd : Hd) : Prop := YOk P G hd.y ∧ HdOkB P G hd.b
noncomputable def Hd.off (hd : Hd) : Hd := ⟨hd.b, ⟨hd.y.s, false, hd.y.f⟩⟩
theorem HdOk.off {P : Program} {G : Nat} {hd : Hd} (h : HdOk P G hd) : HdOk P G hd.off := h
theorem HdOk.c {P : Program} {G : Nat} {hd : Hd} (h : HdOk P G hd) : HdOkC P G hd := (h.2.1 hd.y h.1).1
theorem HdOk.d {P : Program} {G : Nat} {hd : Hd} (h : HdOk P G hd) : HdOkD P G hd := (h.2.1 hd.y h.1).2
def OpsR (G dt n : Nat) (ds : List (Option Nat)) (φ : Id → Option Plc) (e : Env) (t : Tr) (ev : Operand → Value) (op : Op) : Prop := ∀ x ∈ op.operands, VR φ ((opd G dt n ds x).run e t) (ev x)
def noDefer (o : Oper) : Bool := match o.op with
  | .defer _ => false
  | _ => true
def YW (P : Program) (o : Oper) (a : Act) (w : World) (K : Act → World → Prop) : Prop :=
  ∃ l f tmps as' bd, (execOp a.eval o).run P w = .ok (.round l f tmps as' bd) w ∧ noDefer o = true ∧ RoundIn Fence.wide 0 P l f tmps as' bd w fun e w' => ∃ v, e = .returned v ∧ K (a.put o.dst v) w'
def OW (on : Bool) (P : Program) (o : Oper) (a : Act) (w : World) (K : Act → World → Prop) (Q : Exit → Act → World → Prop) : Prop := o.wp P a w K Q ∨ (on = true ∧ YW P o a w K)
def OpOk (P : Program) (G dt n : Nat) (ds : List (Option Nat)) (o : Oper) (m : OM) : Prop :=
  ∀ hd, HdOk P G hd → ∀ e t hp k kp r, m.run hd e t hp k kp = some r →
    (∃ v hp', k v hp' = some r ∧ ∀ φ (B : Bse hd.y.s) a w, Glo G φ → OpsR G dt n ds φ e t a.eval o.op → WH φ B hp w → ∀ (K : Act → World → Prop) Q,
      (∀ v' w', Aft φ B hp w v hp' v' w' → K (a.put o.dst v') w') → OW hd.y.on P o a w K Q) ∨
    (∃ v hp', kp v hp' = some r ∧ ∀ φ (B : Bse hd.y.s) a w, Glo G φ → OpsR G dt n ds φ e t a.eval o.op → WH φ B hp w → ∀ (K : Act → World → Prop) Q,
      (∀ v' w', Aft φ B hp w v hp' v' w' → Q (.panic (one v')) a w') → OW hd.y.on P o a w K Q)
abbrev VM := Env → Tr → HP → KV → R
def StillOk (P : Program) (G dt n : Nat) (ds : List (Option Nat)) (o : Oper) (F : VM) : Prop :=
  ∀ e t hp k r, F e t hp k = some r → ∃ v, k v hp = some r ∧ ∀ φ (a : Act) w, Glo G φ → OpsR G dt n ds φ e t a.eval o.op → RH φ hp w →
    ∃ v', (execOp a.eval o).run P w = .ok (.value v') w ∧ VR φ v v'
def PureOk (P : Program) (G dt n : Nat) (ds : List (Option Nat)) (o : Oper) (F : VM) : Prop :=
  ∀ e t hp k r, F e t hp k = some r → ∃ v, k v hp = some r ∧ ∀ φ (a : Act) w, OpsR G dt n ds φ e t a.eval o.op → ∃ v', (execOp a.eval o).run P w = .ok (.value v') w ∧ VR φ v v'
def MakeOk (P : Program) (G dt n : Nat) (ds : List (Option Nat)) (o : Oper) (F : VM) : Prop :=
  ∀ e t hp k r, F e t hp k = some r → ∃ m nx v x, hp = .mk m nx ∧ last nx = false ∧ x.ro = false ∧ k v (.mk (m.set nx x) (inc nx)) = some r ∧ ∀ φ (a : Act) w, Glo G φ → OpsR G dt n ds φ e t a.eval o.op →
    ∃ v' ob K w', (execOp a.eval o).run P w = .ok (.value v') w' ∧ NewW w ob w' ∧ x.says φ K ob ∧ ∀ ψ, More φ ψ → ψ nx = some (w.heap.size, K) → VR ψ v v'
def ValOk (P : Program) (G dt n : Nat) (ds : List (Option Nat)) (o : Oper) (F : VM) : Prop :=
  ∀ e t hp k r, F e t hp k = some r → ∃ v hp', k v hp' = some r ∧ ∀ {sts : List Site} φ (B : Bse sts) (a : Act) w, Glo G φ → OpsR G dt n ds φ e t a.eval o.op → WH φ B hp w →
    ∃ ψ v' w', ((execOp a.eval o).run P w = .ok (.value v') w' ∨ ((execOp a.eval o).run P w = .ok .skip w' ∧ v' = undef)) ∧ VR ψ v v' ∧ StH φ hp w ψ hp' w' ∧ WH ψ B hp' w'
inductive Kd where | pure | still | make | eff
def OmOk (P : Program) (G dt n : Nat) (ds : List (Option Nat)) (o : Oper) : Kd × OM → Prop
  | (.pure, m) => ∃ F, m = .mk (fun _ e t hp k _ => F e t hp k) ∧ PureOk P G dt n ds o F
  | (.still, m) => ∃ F, m = .mk (fun _ e t hp k _ => F e t hp k) ∧ StillOk P G dt n ds o F
  | (.make, m) => ∃ F, m = .mk (fun _ e t hp k _ => F e t hp k) ∧ MakeOk P G dt n ds o F
  | (.eff, m) => OpOk P G dt n ds o m
section
variable {P : Program} {G dt n : Nat} {ds : List (Option Nat)} {o : Oper} {F : VM}
theorem ValOk.op (h : ValOk P G dt n ds o F) : OpOk P G dt n ds o (.mk fun _ e t hp k _ => F e t hp k) := by
  intro hd hok e t hp k kp r hr
  obtain ⟨v, hp', h1, h2⟩ := h e t hp k r hr
  refine .inl ⟨v, hp', h1, fun φ B a w g1 g2 g3 K Q hK => ?_⟩
  obtain ⟨ψ, v', w', h3, h4, h5, h6⟩ := h2 φ B a w g1 g2 g3
  refine .inl ?_
  unfold Oper.wp
  rcases h3 with h3 | ⟨h3, rfl⟩
  · rw [h3]; exact hK v' w' ⟨ψ, h4, h5, h6⟩
  · rw [h3]; exact hK undef w' ⟨ψ, h4, h5, h6⟩
theorem StillOk.val (h : StillOk P G dt n ds o F) : ValOk P G dt n ds o F := by
  intro e t hp k r hr
  obtain ⟨v, h1, h2⟩ := h e t hp k r hr
  refine ⟨v, hp, h1, fun φ B a w g1 g2 g3 => ?_⟩
  obtain ⟨v', h3, h4⟩ := h2 φ a w g1 g2 g3.rw
  exact ⟨φ, v', w, .inl h3, h4, Step.refl, g3⟩
theorem PureOk.still (h : PureOk P G dt n ds o F) : StillOk P G dt n ds o F := by
  intro e t hp k r hr
  obtain ⟨v, h1, h2⟩ := h e t hp k r hr
  exact ⟨v, h1, fun φ a w _ g2 _ => h2 φ a w g2⟩
theorem PureOk.pure (h : ∀ e t hp k r, F e t hp k = some r → ∃ v, k v hp = some r ∧ ∀ φ (a : Act) w, OpsR G dt n ds φ e t a.eval o.op → ∃ v', (execOp a.eval o).run P w = .ok (.value v') w ∧ VR φ v v') : PureOk P G dt n ds o F := h
theorem MakeOk.val (h : MakeOk P G dt n ds o F) : ValOk P G dt n ds o F := by
  intro e t hp k r hr
  obtain ⟨m, nx, v, x, rfl, hl, _, h1, h2⟩ := h e t hp k r hr
  refine ⟨v, _, h1, fun φ B a w g1 g2 g3 => ?_⟩
  obtain ⟨v', ob, K, w', h3, hn, h4, h5⟩ := h2 φ a w g1 g2
  obtain ⟨h6, h7⟩ := WR.new g3 hl h4 hn
  exact ⟨_, v', _, .inl h3, h5 _ h7.more (ext_same φ nx _), h7, h6⟩
theorem OmOk.op {q : Kd × OM} (h : OmOk P G dt n ds o q) : OpOk P G dt n ds o q.2 := by
  obtain ⟨kd, m⟩ := q
  cases kd with
  | pure => obtain ⟨F, rfl, h1⟩ := h; exact h1.still.val.op
  | still => obtain ⟨F, rfl, h1⟩ := h; exact h1.val.op
  | make => obtain ⟨F, rfl, h1⟩ := h; exact h1.val.op
  | eff => exact h
end
end Go.Proofs.YtobaebpmdimljaaGreatDoor.Clo
end
section
namespace Go.Proofs.YtobaebpmdimljaaGreatDoor.Clo
open Go.RowKit
set_option linter.unusedVariables false
set_option linter.unusedSimpArgs false
def undefA : AV := .tu .nil
theorem undefA_ok (φ : Id → Option Plc) : VR φ undefA undef := ⟨#[], rfl, rfl⟩
def ExR (φ : Id → Option Plc) : Ex → Exit → Prop
  | .normal, e => e = .normal
  | .exit i, e => e = .exit i
  | .ret, e => e = .ret
  | .pan v, e => ∃ v', e = .panic (one v') ∧ VR φ v v'
noncomputable def guardB (a : AV) (kt kf : R) : R := AV.rec (motive := fun _ => R) none none (fun _ _ _ _ => none) none (fun _ _ _ => none) none (fun _ _ _ _ _ => none) none (fun _ => none) (fun _ _ => kf) (fun _ _ => none) none (fun _ _ _ _ => none) (fun _ _ _ _ => none) (fun _ => none) (fun _ => none) none (fun _ _ => none) (fun _ => none) (fun x => Bool.rec kf kt x) (fun _ _ => none) a
noncomputable def guardN (a : AV) (kt kf : R) : R := AV.rec (motive := fun _ => R) none none (fun _ _ _ _ => none) none (fun _ _ _ => none) none (fun _ _ _ _ _ => none) none (fun _ => none) (fun _ _ => kf) (fun _ _ => none) none (fun _ _ _ _ => none) (fun _ _ _ _ => none) (fun _ => none) (fun _ => none) none (fun _ _ => none) (fun _ => none) (fun x => Bool.rec kt kf x) (fun _ _ => none) a
noncomputable def argsA : List GV → Env → Tr → AV
  | [], _, _ => .nil
  | g :: r, e, t => .cons (g.run e t) (argsA r e t)
abbrev OpM := List (Option Nat) → Oper → Option (Kd × OM)
section
variable (P : Program) (G dt n : Nat) (lo : Nat → Bool) (opM : OpM)
noncomputable def wantedM (ds : List (Option Nat)) (ops : Array Oper) (o : Oper) (m : OM) : OM :=
  match o.guard with
  | none => m
  | some (j, w) => match (ops[j]?).bind (·.dst) with
    | none => .mk fun _ _ _ _ _ _ => none
    | some d => let g := opd G dt n ds (.tmp d)
      match w with
      | true => .mk fun hd e t hp k kp => guardB (g.run e t) (m.run hd e t hp k kp) (k undefA hp)
      | false => .mk fun hd e t hp k kp => guardN (g.run e t) (m.run hd e t hp k kp) (k undefA hp)
noncomputable def isFn (a : AV) (k : R) : R := a.on_fn fun f _ _ => match f with | .func _ => k | _ => none
noncomputable def opsM (ops : Array Oper) : List Oper → List (Option Nat) → RM
  | [], _ => .mk fun _ _ t hp k => k .normal t hp
  | o :: r, ds => match opM ds o with
    | none => match o.guard, o.dst, o.op with
      | none, none, .defer c => match c.callee with
        | .value f => let g := opd G dt n ds f
          let gs := c.args.toList.map (opd G dt n ds)
          let p := path dt n
          let q := opsM ops r (none :: ds)
          .mk fun hd e t hp k => isFn (g.run e t) (q.run hd (undefA :: e) (t.set p (.cons (.cons (g.run e t) (argsA gs e t)) (getT p t))) hp k)
        | _ => .mk fun _ _ _ _ _ => none
      | _, _, _ => .mk fun _ _ _ _ _ => none
    | some (_, m) =>
      let m := wantedM G dt n ds ops o m
      let q := opsM ops r (o.dst :: ds)
      match o.dst with
      | none => .mk fun hd e t hp k => m.run hd e t hp (fun v hp => q.run hd (v :: e) t hp k) fun v hp => k (.pan v) t hp
      | some d => if d < n then (if lo d then .mk fun hd e t hp k => m.run hd e t hp (fun v hp => q.run hd (v :: e) t hp k) fun v hp => k (.pan v) t hp
          else let p := path dt d; .mk fun hd e t hp k => m.run hd e t hp (fun v hp => q.run hd (v :: e) (t.set p v) hp k) fun v hp => k (.pan v) t hp)
        else .mk fun _ _ _ _ _ => none
variable {P G dt n lo opM}
theorem opsR_of {φ : Id → Option Plc} {ds : List (Option Nat)} {e : Env} {t : Tr} {a : Act} (hg : Glo G φ) (hf : FR φ dt n lo t a) (he : EnvR φ ds e a.tmps) (op : Op) : OpsR G dt n ds φ e t a.eval op := fun x _ => opd_ok hg hf he x
theorem argsA_ok {φ : Id → Option Plc} {ds : List (Option Nat)} {e : Env} {t : Tr} {ev : Operand → Value} : ∀ {l : List Operand}, (∀ x ∈ l, VR φ ((opd G dt n ds x).run e t) (ev x)) → VL φ (argsA (l.map (opd G dt n ds)) e t) (l.map ev)
  | [], _ => rfl
  | x :: l, hx => ⟨_, _, rfl, hx x (by simp), argsA_ok fun y hy => hx y (by simp [hy])⟩
def OpOkG (P : Program) (G dt n : Nat) (lo : Nat → Bool) (ds : List (Option Nat)) (ops : Array Oper) (o : Oper) (m : OM) : Prop :=
  ∀ hd, HdOk P G hd → ∀ e t hp k kp r, m.run hd e t hp k kp = some r →
    (∃ v hp', k v hp' = some r ∧ ∀ φ (B : Bse hd.y.s) a w, Glo G φ → FR φ dt n lo t a → EnvR φ ds e a.tmps → WH φ B hp w → ∀ (K : Act → World → Prop) Q,
      (∀ v' w', Aft φ B hp w v hp' v' w' → K (a.put o.dst v') w') → if Region.wanted o (yielded ops a.tmps) = true then OW hd.y.on P o a w K Q else K (a.put o.dst undef) w) ∨
    (∃ v hp', kp v hp' = some r ∧ ∀ φ (B : Bse hd.y.s) a w, Glo G φ → FR φ dt n lo t a → EnvR φ ds e a.tmps → WH φ B hp w → ∀ (K : Act → World → Prop) Q,
      (∀ v' w', Aft φ B hp w v hp' v' w' → Q (.panic (one v')) a w') → if Region.wanted o (yielded ops a.tmps) = true then OW hd.y.on P o a w K Q else K (a.put o.dst undef) w)
theorem guardB_some {a : AV} {kt kf : R} {r : AV × HP} (h : guardB a kt kf = some r) : (a = .b true ∧ kt = some r) ∨ (((∃ l, a = .tu l) ∨ a = .b false) ∧ kf = some r) := by
  cases a <;> first | (cases h; done) | skip
  · exact .inr ⟨.inl ⟨_, rfl⟩, h⟩
  · rename_i x
    cases x
    · exact .inr ⟨.inr rfl, h⟩
    · exact .inl ⟨rfl, h⟩
theorem guardN_some {a : AV} {kt kf : R} {r : AV × HP} (h : guardN a kt kf = some r) : (a = .b false ∧ kt = some r) ∨ (((∃ l, a = .tu l) ∨ a = .b true) ∧ kf = some r) := by
  cases a <;> first | (cases h; done) | skip
  · exact .inr ⟨.inl ⟨_, rfl⟩, h⟩
  · rename_i x
    cases x
    · exact .inl ⟨rfl, h⟩
    · exact .inr ⟨.inr rfl, h⟩
theorem yielded_of {ops : Array Oper} {tmps : Array Value} {j d : Nat} (h : (ops[j]?).bind (·.dst) = some d) : yielded ops tmps j = match tmps.getD d undef with | .bool b => some b | _ => none := by
  unfold yielded
  rw [h]
  simp only [Option.bind_some, Array.getD_eq_getD_getElem?]
  cases tmps[d]? with
  | none => rfl
  | some v => cases v <;> rfl
theorem wanted_of {ops : Array Oper} {o : Oper} {j d : Nat} {w : Bool} (hg : o.guard = some (j, w)) (hj : (ops[j]?).bind (·.dst) = some d) (a : Act) : Region.wanted o (yielded ops a.tmps) = ((match a.tmps.getD d undef with | .bool b => some b | _ => none) == some w) := by
  unfold Region.wanted
  rw [hg]
  simp only [yielded_of hj]
theorem wantedM_ok {ds : List (Option Nat)} {ops : Array Oper} {o : Oper} {m : OM} (hm : OpOk P G dt n ds o m) : OpOkG P G dt n lo ds ops o (wantedM G dt n ds ops o m) := by
  intro hd hok e t hp k kp r hr
  unfold wantedM at hr
  cases hg : o.guard with
  | none =>
    simp only [hg] at hr
    have hw : ∀ a : Act, Region.wanted o (yielded ops a.tmps) = true := fun a => by simp [Region.wanted, hg]
    rcases hm hd hok e t hp k kp r hr with ⟨v, hp', h1, h2⟩ | ⟨v, hp', h1, h2⟩
    · exact .inl ⟨v, hp', h1, fun φ B a w g1 g2 g3 g4 K Q hK => by rw [if_pos (hw a)]; exact h2 φ B a w g1 (opsR_of g1 g2 g3 _) g4 K Q hK⟩
    · exact .inr ⟨v, hp', h1, fun φ B a w g1 g2 g3 g4 K Q hK => by rw [if_pos (hw a)]; exact h2 φ B a w g1 (opsR_of g1 g2 g3 _) g4 K Q hK⟩
  | some jw =>
    obtain ⟨j, w⟩ := jw
    simp only [hg] at hr
    cases hj : (ops[j]?).bind (·.dst) with
    | none => simp only [hj] at hr; cases hr
    | some d =>
      simp only [hj] at hr
      have hw := fun a : Act => wanted_of hg hj a
      have go : (((opd G dt n ds (.tmp d)).run e t = .b w ∧ m.run hd e t hp k kp = some r) ∨ (((∃ l, (opd G dt n ds (.tmp d)).run e t = .tu l) ∨ (opd G dt n ds (.tmp d)).run e t = .b (!w)) ∧ k undefA hp = some r)) →
          (∃ v hp', k v hp' = some r ∧ ∀ φ (B : Bse hd.y.s) a w, Glo G φ → FR φ dt n lo t a → EnvR φ ds e a.tmps → WH φ B hp w → ∀ (K : Act → World → Prop) Q,
            (∀ v' w', Aft φ B hp w v hp' v' w' → K (a.put o.dst v') w') → if Region.wanted o (yielded ops a.tmps) = true then OW hd.y.on P o a w K Q else K (a.put o.dst undef) w) ∨
          (∃ v hp', kp v hp' = some r ∧ ∀ φ (B : Bse hd.y.s) a w, Glo G φ → FR φ dt n lo t a → EnvR φ ds e a.tmps → WH φ B hp w → ∀ (K : Act → World → Prop) Q,
            (∀ v' w', Aft φ B hp w v hp' v' w' → Q (.panic (one v')) a w') → if Region.wanted o (yielded ops a.tmps) = true then OW hd.y.on P o a w K Q else K (a.put o.dst undef) w) := by
        intro hc
        rcases hc with ⟨h1, h2⟩ | ⟨h1, h2⟩
        · have hpos : ∀ φ (a : Act), Glo G φ → FR φ dt n lo t a → EnvR φ ds e a.tmps → Region.wanted o (yielded ops a.tmps) = true := fun φ a g1 g2 g3 => by
            have hv := opd_ok (lo := lo) g1 g2 g3 (.tmp d)
            rw [h1] at hv
            have hv' : a.tmps.getD d undef = .bool w := hv
            rw [hw a, hv']; simp
          rcases hm hd hok e t hp k kp r h2 with ⟨v, hp', h3, h4⟩ | ⟨v, hp', h3, h4⟩
          · exact .inl ⟨v, hp', h3, fun φ B a w0 g1 g2 g3 g4 K Q hK => by rw [if_pos (hpos φ a g1 g2 g3)]; exact h4 φ B a w0 g1 (opsR_of g1 g2 g3 _) g4 K Q hK⟩
          · exact .inr ⟨v, hp', h3, fun φ B a w0 g1 g2 g3 g4 K Q hK => by rw [if_pos (hpos φ a g1 g2 g3)]; exact h4 φ B a w0 g1 (opsR_of g1 g2 g3 _) g4 K Q hK⟩
        · refine .inl ⟨undefA, hp, h2, fun φ B a w0 g1 g2 g3 g4 K Q hK => ?_⟩
          have hv := opd_ok (lo := lo) g1 g2 g3 (.tmp d)
          rw [if_neg ?_]
          · exact hK undef w0 ⟨φ, undefA_ok φ, Step.refl, g4⟩
          · rw [hw a]
            rcases h1 with ⟨l, h1⟩ | h1
            · rw [h1] at hv
              obtain ⟨xs, hv', _⟩ := hv
              have hv'' : a.tmps.getD d undef = .tuple xs := hv'
              rw [hv'']
              simp
            · rw [h1] at hv
              have hv'' : a.tmps.getD d undef = .bool (!w) := hv
              rw [hv'']
              cases w <;> simp
      cases w with
      | true => exact go (guardB_some hr)
      | false => exact go (guardN_some hr)
theorem isFn_some {a : AV} {k : R} {x : AV × HP} (h : isFn a k = some x) : ∃ f first cap, a = .fn (.func f) first cap ∧ k = some x := by
  obtain ⟨f, first, cap, h1, h2⟩ := AV.on_fn_some (show a.on_fn (fun f _ _ => match f with | .func _ => k | _ => none) = some x from h)
  cases f <;> first | (cases h2; done) | exact ⟨_, first, cap, h1, h2⟩
theorem FR.defer {φ : Id → Option Plc} {t : Tr} {a : Act} (hf : FR φ dt n lo t a) {f : FuncId} {first cap args : AV} {us ys ars : Array Value} (h1 : VL φ first us.toList) (h2 : VL φ cap ys.toList) (h3 : VL φ args ars.toList) :
    FR φ dt n lo (t.set (path dt n) (.cons (.cons (.fn (.func f) first cap) args) (getT (path dt n) t))) { a with defers := { target := .fn (.func f) ys, args := us ++ ars } :: a.defers } := by
  have ne : ∀ k, k < n → path dt k ≠ path dt n := fun k hk e => Nat.ne_of_lt hk (path_inj dt k n (Nat.lt_trans hk hf.cap) hf.cap e)
  refine ⟨hf.sz, hf.cap, fun k hk => ?_, fun k hk hl => ?_, ?_⟩
  · rw [getT_get, T4.get_set_other _ _ _ _ (by rw [path_len, path_len]) (ne k hk), ← getT_get]; exact hf.at' k hk
  · rw [getT_get, T4.get_set_other _ _ _ _ (by rw [path_len, path_len]) (ne k hk), ← getT_get]; exact hf.lo k hk hl
  · rw [getT_get (path dt n) (t.set _ _), T4.get_set_same]
    exact ⟨us, ys, ars, a.defers, rfl, h1, h2, h3, hf.df⟩
theorem opsM_gen (hop : ∀ ds o q, opM ds o = some q → OmOk P G dt n ds o q) (ops : Array Oper) (on : Bool) (W : (Exit → Act → World → Prop) → List Oper → Act → World → Prop) (hnil : ∀ Q a w, Q .normal a w → W Q [] a w)
    (hstep : ∀ Q o l a w, (∀ K : Act → World → Prop, (∀ a w, W Q l a w → K a w) → if Region.wanted o (yielded ops a.tmps) then OW on P o a w K Q else K (a.put o.dst undef) w) → W Q (o :: l) a w) : ∀ (l : List Oper) (ds : List (Option Nat)) (hd : Hd), hd.y.on = on → HdOk P G hd → ∀ e t hp k r, (opsM G dt n lo opM ops l ds).run hd e t hp k = some r →
    ∃ x t' hp', k x t' hp' = some r ∧ ∀ φ (B : Bse hd.y.s) a w, Glo G φ → FR φ dt n lo t a → EnvR φ ds e a.tmps → WH φ B hp w → ∀ Q, (∀ ψ a' w' x', ExR ψ x x' → FR ψ dt n lo t' a' → StH φ hp w ψ hp' w' → WH ψ B hp' w' → Q x' a' w') → W Q l a w
  | [], ds, hd, hon, hok, e, t, hp, k, r, hr => ⟨.normal, t, hp, hr, fun φ B a w g1 g2 g3 g4 Q hQ => hnil Q a w (hQ φ a w .normal rfl g2 Step.refl g4)⟩
  | o :: l, ds, hd, hon, hok, e, t, hp, k, r, hr => by
    subst hon
    unfold opsM at hr
    cases ho : opM ds o with
    | none =>
      simp only [ho] at hr
      split at hr
      · rename_i c hgd hdst hopd
        split at hr
        · rename_i f hcal
          obtain ⟨fid, first, cap, h1, h2⟩ := isFn_some hr
          obtain ⟨x, t', hp', h3, h4⟩ := opsM_gen hop ops hd.y.on W hnil hstep l (none :: ds) hd rfl hok _ _ hp k r h2
          refine ⟨x, t', hp', h3, fun φ B a w g1 g2 g3 g4 Q hQ => hstep Q o l a w fun K hK => ?_⟩
          rw [if_pos (by simp [Region.wanted, hgd])]
          have hfv := opd_ok (lo := lo) g1 g2 g3 f
          rw [h1] at hfv
          obtain ⟨us, ys, e1, v1, v2⟩ := hfv
          have e1' : a.eval f = .func (.func fid) us ys := e1
          have hargs : VL φ (argsA (c.args.toList.map (opd G dt n ds)) e t) (c.args.map a.eval).toList := by rw [Array.toList_map]; exact argsA_ok fun x _ => opd_ok g1 g2 g3 x
          have hrun : (execOp a.eval o).run P w = .ok (.defer { target := .fn (.func fid) ys, args := us ++ c.args.map a.eval }) w := by
            unfold execOp
            rw [hopd]
            simp only [resolve, hcal, e1', Deferred.ofValue, Sem.run_bind, Sem.run_pure, Result.andThen_ok]
          refine .inl ?_
          unfold Oper.wp
          rw [hrun]
          refine hK _ _ ?_
          rw [hdst]
          refine h4 φ B _ w g1 (by rw [h1]; exact (FR.defer g2 v1 v2 hargs).put_none) ?_ g4 Q hQ
          exact EnvR.put (v' := undef) (a := { a with defers := { target := .fn (.func fid) ys, args := us ++ c.args.map a.eval } :: a.defers }) g3 (undefA_ok φ) none (fun d h => by cases h)
        · cases hr
      · cases hr
    | some km =>
      obtain ⟨kd, m⟩ := km
      simp only [ho] at hr
      have hw := wantedM_ok (lo := lo) (ops := ops) (hop ds o _ ho).op
      have key : ∀ (t2 : AV → Tr), (∀ φ a v v', FR φ dt n lo t a → VR φ v v' → FR φ dt n lo (t2 v) (a.put o.dst v')) → (∀ d, o.dst = some d → d < n) →
          (wantedM G dt n ds ops o m).run hd e t hp (fun v hp => (opsM G dt n lo opM ops l (o.dst :: ds)).run hd (v :: e) (t2 v) hp k) (fun v hp => k (.pan v) t hp) = some r →
          ∃ x t' hp', k x t' hp' = some r ∧ ∀ φ (B : Bse hd.y.s) a w, Glo G φ → FR φ dt n lo t a → EnvR φ ds e a.tmps → WH φ B hp w → ∀ Q, (∀ ψ a' w' x', ExR ψ x x' → FR ψ dt n lo t' a' → StH φ hp w ψ hp' w' → WH ψ B hp' w' → Q x' a' w') → W Q (o :: l) a w := by
        intro t2 ht2 hdl hrun
        rcases hw hd hok e t hp _ _ r hrun with ⟨v, hp1, h1, h2⟩ | ⟨v, hp1, h1, h2⟩
        · obtain ⟨x, t', hp', h3, h4⟩ := opsM_gen hop ops hd.y.on W hnil hstep l (o.dst :: ds) hd rfl hok (v :: e) (t2 v) hp1 k r h1
          refine ⟨x, t', hp', h3, fun φ B a w g1 g2 g3 g4 Q hQ => hstep Q o l a w fun K hK => ?_⟩
          refine h2 φ B a w g1 g2 g3 g4 K Q fun v' w' ⟨ψ, hv, hs, hw'⟩ => hK _ _ ?_
          refine h4 ψ B (a.put o.dst v') w' (g1.more hs.more) (ht2 ψ a v v' (g2.more hs.more) hv) (EnvR.put (g3.more hs.more) hv o.dst (fun d hd' => by rw [g2.sz]; exact hdl d hd')) hw' Q fun χ a' w'' x' f0 f1 f2 f3 => ?_
          exact hQ χ a' w'' x' f0 f1 (hs.trans f2) f3
        · refine ⟨.pan v, t, hp1, h1, fun φ B a w g1 g2 g3 g4 Q hQ => hstep Q o l a w fun K hK => ?_⟩
          exact h2 φ B a w g1 g2 g3 g4 K Q fun v' w' ⟨ψ, hv, hs, hw'⟩ => hQ ψ a w' _ ⟨v', rfl, hv⟩ (g2.more hs.more) hs hw'
      cases hds : o.dst with
      | none =>
        simp only [hds] at hr
        exact key (fun _ => t) (fun φ a v v' hf hv => by rw [hds]; exact hf.put_none) (fun d e => by rw [hds] at e; cases e) (by rw [hds]; exact hr)
      | some d =>
        simp only [hds] at hr
        by_cases hdn : d < n
        · simp only [hdn, if_true] at hr
          by_cases hl : lo d = true
          · simp only [hl, if_true] at hr
            exact key (fun _ => t) (fun φ a v v' hf hv => by rw [hds]; exact hf.put_lo hdn hl) (fun d' e => by rw [hds] at e; cases e; exact hdn) (by rw [hds]; exact hr)
          · simp only [hl, if_false, Bool.false_eq_true] at hr
            exact key (fun v => t.set (path dt d) v) (fun φ a v v' hf hv => by rw [hds]; exact hf.put hdn (by simpa using hl) hv) (fun d' e => by rw [hds] at e; cases e; exact hdn) (by rw [hds]; exact hr)
        · simp only [hdn, if_false] at hr
          cases hr
end
end Go.Proofs.YtobaebpmdimljaaGreatDoor.Clo
end
