/- Steps of the typed rule (Typed, Tail) that come again and again: a call of a function whose operands are known, a load, an index, a new slice of words. -/
import Derived.Test.YtonblhannoinfaaMem
import Derived.Test.YtonblhannoinfaaTail
namespace Go.Proofs.Ytonblhannoinfaa
open Go.RowKit
/-- an operand's value, where it is known -/
def evalE (E : Env) : Operand → Option Value
  | .tmp s => match E s with
    | .inl c => some c
    | .inr _ => none
  | .const v => some v
  | .global g => some (.pointer (some ⟨g, 0, none⟩))
  | .func f => some (.func (.func f) #[] #[])
theorem evalE_of {E : Env} {ops : Array Oper} {o : Oper} {a : Act} {w : World} {x : Operand} {c : Value} (h : evalE E x = some c) (hm : x ∈ o.op.operands)
    (hs : ∀ s ∈ o.looksAt ops, Ty.of (E s) (a.tmps.getD s undef) w) : a.eval x = c := by
  cases x with
  | const v => simpa [evalE, Act.eval] using h
  | global g => simpa [evalE, Act.eval] using h
  | func f => simpa [evalE, Act.eval] using h
  | tmp s =>
    have hv := hs s (looks_of hm rfl)
    simp only [evalE] at h
    cases hE : E s with
    | inl d =>
      rw [hE] at h hv
      simp only [Option.some.injEq] at h
      subst h
      exact hv
    | inr T => rw [hE] at h; cases h
theorem map_of {E : Env} {ops : Array Oper} {o : Oper} {a : Act} {w : World} {xs : Array Operand} {args : Array Value} (h : xs.toList.map (evalE E) = args.toList.map some) (hm : ∀ x ∈ xs, x ∈ o.op.operands)
    (hs : ∀ s ∈ o.looksAt ops, Ty.of (E s) (a.tmps.getD s undef) w) : xs.map a.eval = args := by
  apply Array.ext'
  rw [Array.toList_map]
  have key : ∀ (l : List Operand) (m : List Value), (∀ x ∈ l, x ∈ o.op.operands) → l.map (evalE E) = m.map some → l.map a.eval = m := by
    intro l
    induction l with
    | nil => intro m _ h; cases m with
      | nil => rfl
      | cons _ _ => simp at h
    | cons x l ih => intro m hm h; cases m with
      | nil => simp at h
      | cons c m =>
        simp only [List.map_cons, List.cons.injEq] at h ⊢
        exact ⟨evalE_of h.1 (hm x (by simp)) hs, ih m (fun y hy => hm y (by simp [hy])) h.2⟩
  exact key _ _ (fun x hx => hm x (by simpa using hx)) h
section
variable {ops : Array Oper} {w0 : World} {Fin : List Ty → Prop} {rest : List Oper} {E : Env} {Ts : List Ty} {o : Oper} {P : Program}
/-- a call of a function of the program, its operands known -/
theorem tw_fn {f : FuncId} {xs : Array Operand} {ts : Array TypeId} (args : Array Value) (T : Ty) (hst : Stable T) (hop : o.op = .call { callee := .value (.func f), args := xs, argTypes := ts })
    (hcf : ∀ (W : World), (callFunc f args).run P W = .ok (.enter f args) W) (hx : xs.toList.map (evalE E) = args.toList.map some) (hw : Wd ops o E true)
    (hc : ∀ W, Ext w0 W → Calls P f args W fun e w' => ∃ v, e = .returned v ∧ Ext W w' ∧ Ty.of T v w')
    (hr : wpT P ops w0 Fin rest (E.put o.dst T) (T :: Ts)) : wpT P ops w0 Fin (o :: rest) E Ts :=
  tw_call T hst hw (fun a W hW hs => by
    have hm := map_of (o := o) (a := a) (w := W) hx (fun x hx => by rw [hop]; simp [Op.operands, Call.operands, hx]) hs
    refine ⟨f, args, ?_, hc W hW⟩
    unfold execOp
    simp only [hop, resolve, Act.eval, Deferred.ofValue, hm, Sem.run_bind, Sem.run_pure, Result.andThen_ok, invoke, Array.append_empty, Array.empty_append, hcf W]) hr
/-- a call that leaves the world as it was -/
theorem tw_fn0 {f : FuncId} {xs : Array Operand} {ts : Array TypeId} (args : Array Value) (v : Value) (hop : o.op = .call { callee := .value (.func f), args := xs, argTypes := ts })
    (hcf : ∀ (W : World), (callFunc f args).run P W = .ok (.enter f args) W) (hx : xs.toList.map (evalE E) = args.toList.map some) (hw : Wd ops o E true)
    (hc : ∀ W, Ext w0 W → Calls P f args W fun e w' => e = .returned v ∧ W = w')
    (hr : wpT P ops w0 Fin rest (E.put o.dst (.inl v)) (.inl v :: Ts)) : wpT P ops w0 Fin (o :: rest) E Ts :=
  tw_fn args (.inl v) (stable_is _) hop hcf hx hw (fun W hW => (hc W hW).mono fun e w' h => ⟨v, h.1, by rw [h.2]; exact Ext.refl _, rfl⟩) hr
/-- a call that makes memory and answers one known value -/
theorem tw_fnB {f : FuncId} {xs : Array Operand} {ts : Array TypeId} (args : Array Value) (v : Value) (hop : o.op = .call { callee := .value (.func f), args := xs, argTypes := ts })
    (hcf : ∀ (W : World), (callFunc f args).run P W = .ok (.enter f args) W) (hx : xs.toList.map (evalE E) = args.toList.map some) (hw : Wd ops o E true)
    (hc : ∀ W, Ext w0 W → Calls P f args W fun e w' => e = .returned v ∧ Below W.heap.size W w')
    (hr : wpT P ops w0 Fin rest (E.put o.dst (.inl v)) (.inl v :: Ts)) : wpT P ops w0 Fin (o :: rest) E Ts :=
  tw_fn args (.inl v) (stable_is _) hop hcf hx hw (fun W hW => (hc W hW).mono fun e w' h => ⟨v, h.1, h.2, rfl⟩) hr
end
section
variable {ops : Array Oper} {w0 : World} {Fin : List Ty → Prop} {rest : List Oper} {E : Env} {Ts : List Ty} {o : Oper}
/-- a load of a word -/
theorem tw_ld {s : Tmp} {p : Addr} {x : Int} (hop : o.op = .load 22 (.tmp s)) (hE : E s = .inl (.pointer (some p))) (hc : ∀ W, Ext w0 W → W.cell? p = some (.int .u32 x)) (hw : Wd ops o E true)
    (hr : wpT Try.prog ops w0 Fin rest (E.put o.dst (.inl (.int .u32 x))) (.inl (.int .u32 x) :: Ts)) : wpT Try.prog ops w0 Fin (o :: rest) E Ts :=
  tw_pure (.int .u32 x) hw (fun a W hW hs => by
    have hv := hs s (looks_of (x := .tmp s) (by rw [hop]; simp [Op.operands]) rfl)
    rw [hE] at hv
    have h1 : a.tmps.getD s undef = .pointer (some p) := hv
    have h2 := hc W hW
    unfold execOp
    simp only [hop, Act.eval, h1]
    go_simp) hr
/-- a new slice of five words -/
theorem tw_new5 {x0 x1 x2 x3 x4 : Operand} (a0 a1 a2 a3 a4 : Int) (hop : o.op = .buildSlice 54 5 #[(0, x0), (1, x1), (2, x2), (3, x3), (4, x4)])
    (h0 : evalE E x0 = some (.int .u32 a0)) (h1 : evalE E x1 = some (.int .u32 a1)) (h2 : evalE E x2 = some (.int .u32 a2)) (h3 : evalE E x3 = some (.int .u32 a3)) (h4 : evalE E x4 = some (.int .u32 a4)) (hw : Wd ops o E true)
    (hr : wpT Try.prog ops w0 Fin rest (E.put o.dst (SlT .u32 [a0, a1, a2, a3, a4])) (SlT .u32 [a0, a1, a2, a3, a4] :: Ts)) : wpT Try.prog ops w0 Fin (o :: rest) E Ts :=
  tw_val (SlT .u32 [a0, a1, a2, a3, a4]) (stable_sl _ _) hw (fun a W hW hs => by
    have e0 : a.eval x0 = _ := evalE_of h0 (by rw [hop]; simp [Op.operands]) hs
    have e1 : a.eval x1 = _ := evalE_of h1 (by rw [hop]; simp [Op.operands]) hs
    have e2 : a.eval x2 = _ := evalE_of h2 (by rw [hop]; simp [Op.operands]) hs
    have e3 : a.eval x3 = _ := evalE_of h3 (by rw [hop]; simp [Op.operands]) hs
    have e4 : a.eval x4 = _ := evalE_of h4 (by rw [hop]; simp [Op.operands]) hs
    refine ⟨.slice (some ⟨W.heap.size, 0, none⟩) 5 5, W.alloc (.cells #[.int .u32 a0, .int .u32 a1, .int .u32 a2, .int .u32 a3, .int .u32 a4] 22), ?_, (Below.refl _ W).alloc (Nat.le_refl _) _, some ⟨W.heap.size, 0, none⟩, 5, rfl, ?_⟩
    · unfold execOp
      simp only [hop, List.map_toArray, List.map_cons, List.map_nil, e0, e1, e2, e3, e4]
      go_simp
    · have := Rd.new W 22 #[.int .u32 a0, .int .u32 a1, .int .u32 a2, .int .u32 a3, .int .u32 a4] (s := 1) (n := 5) rfl
      simpa [ints] using this) hr
theorem tw_new2 {x0 x1 : Operand} (a0 a1 : Int) (hop : o.op = .buildSlice 54 2 #[(0, x0), (1, x1)])
    (h0 : evalE E x0 = some (.int .u32 a0)) (h1 : evalE E x1 = some (.int .u32 a1)) (hw : Wd ops o E true)
    (hr : wpT Try.prog ops w0 Fin rest (E.put o.dst (SlT .u32 [a0, a1])) (SlT .u32 [a0, a1] :: Ts)) : wpT Try.prog ops w0 Fin (o :: rest) E Ts :=
  tw_val (SlT .u32 [a0, a1]) (stable_sl _ _) hw (fun a W hW hs => by
    have e0 : a.eval x0 = _ := evalE_of h0 (by rw [hop]; simp [Op.operands]) hs
    have e1 : a.eval x1 = _ := evalE_of h1 (by rw [hop]; simp [Op.operands]) hs
    refine ⟨.slice (some ⟨W.heap.size, 0, none⟩) 2 2, W.alloc (.cells #[.int .u32 a0, .int .u32 a1] 22), ?_, (Below.refl _ W).alloc (Nat.le_refl _) _, some ⟨W.heap.size, 0, none⟩, 2, rfl, ?_⟩
    · unfold execOp
      simp only [hop, List.map_toArray, List.map_cons, List.map_nil, e0, e1]
      go_simp
    · have := Rd.new W 22 #[.int .u32 a0, .int .u32 a1] (s := 1) (n := 2) rfl
      simpa [ints] using this) hr
/-- a call of one slice of words that leaves the world as it was -/
theorem tw_fnS {f : FuncId} {s : Tmp} {ts : Array TypeId} (l : List Int) (v : Value) (hop : o.op = .call { callee := .value (.func f), args := #[.tmp s], argTypes := ts })
    (hcf : ∀ args (W : World), (callFunc f args).run Try.prog W = .ok (.enter f args) W) (hE : E s = SlT .u32 l) (hw : Wd ops o E true)
    (hc : ∀ A c W, Rd W W.heap.size 1 A l.length (ints .u32 l) → Calls Try.prog f #[.slice A l.length c] W fun e w' => e = .returned v ∧ W = w')
    (hr : wpT Try.prog ops w0 Fin rest (E.put o.dst (.inl v)) (.inl v :: Ts)) : wpT Try.prog ops w0 Fin (o :: rest) E Ts :=
  tw_call (.inl v) (stable_is _) hw (fun a W hW hs => by
    have hv := hs s (looks_of (x := .tmp s) (by rw [hop]; simp [Op.operands, Call.operands]) rfl)
    rw [hE] at hv
    obtain ⟨A, c, e, hx⟩ := hv
    refine ⟨f, #[.slice A l.length c], ?_, (hc A c W hx).mono fun e w' h => ⟨v, h.1, by rw [h.2]; exact Ext.refl _, rfl⟩⟩
    unfold execOp
    simp only [hop, resolve, List.map_toArray, List.map_cons, List.map_nil, Act.eval, e, Deferred.ofValue, Sem.run_bind, Sem.run_pure, Result.andThen_ok, invoke, Array.append_empty, Array.empty_append, hcf]) hr
/-- a value built of known parts -/
theorem tw_agg5 {x0 x1 x2 x3 x4 : Operand} {v0 v1 v2 v3 v4 : Int} (hop : o.op = .build 23 #[(0, x0), (1, x1), (2, x2), (3, x3), (4, x4)])
    (h0 : evalE E x0 = some (.int .u32 v0)) (h1 : evalE E x1 = some (.int .u32 v1)) (h2 : evalE E x2 = some (.int .u32 v2)) (h3 : evalE E x3 = some (.int .u32 v3)) (h4 : evalE E x4 = some (.int .u32 v4)) (hw : Wd ops o E true)
    (hr : wpT Try.prog ops w0 Fin rest (E.put o.dst (.inl (.agg #[.int .u32 v0, .int .u32 v1, .int .u32 v2, .int .u32 v3, .int .u32 v4]))) (.inl (.agg #[.int .u32 v0, .int .u32 v1, .int .u32 v2, .int .u32 v3, .int .u32 v4]) :: Ts)) : wpT Try.prog ops w0 Fin (o :: rest) E Ts :=
  tw_pure _ hw (fun a W hW hs => by
    have e0 : a.eval x0 = _ := evalE_of h0 (by rw [hop]; simp [Op.operands]) hs
    have e1 : a.eval x1 = _ := evalE_of h1 (by rw [hop]; simp [Op.operands]) hs
    have e2 : a.eval x2 = _ := evalE_of h2 (by rw [hop]; simp [Op.operands]) hs
    have e3 : a.eval x3 = _ := evalE_of h3 (by rw [hop]; simp [Op.operands]) hs
    have e4 : a.eval x4 = _ := evalE_of h4 (by rw [hop]; simp [Op.operands]) hs
    unfold execOp
    simp only [hop, List.map_toArray, List.map_cons, List.map_nil, e0, e1, e2, e3, e4]
    go_simp) hr
end
end Go.Proofs.Ytonblhannoinfaa
