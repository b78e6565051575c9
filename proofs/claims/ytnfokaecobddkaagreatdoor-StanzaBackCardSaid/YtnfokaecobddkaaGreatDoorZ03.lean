/- Part 3 of a proof laid in parts, one behind the other; no condition of its own. -/
import Derived.Test.YtnfokaecobddkaaGreatDoorZ02
import Derived.Test.YtnfokaecobddkaaGreatDoorZ01
import Derived.Outline
import Derived.Shelf.Strings.Builder1
import Derived.Shelf.Strings.Trim
import Derived.Shelf.Small.Utf8
import Derived.Shelf.Small.Strs
import Derived.Shelf.Strings.BuilderF
import Derived.Shelf.Strconv.Itoa0
import Derived.Shelf.Strconv.Itoa1
import Derived.Shelf.LaysM
import Derived.Shelf.Strconv.Itoa2
import Derived.Shelf.Strconv.Itoa3
import Derived.Shelf.Strings.Search1
import Derived.Shelf.Strings.Search2
import Derived.Shelf.Strings.Search3
import Derived.Shelf.Strings.Cut
import Derived.Shelf.Strings.Shaped
import Derived.Shelf.GgClosure.StringsIndexFunc
import Derived.Ground.GgwProg
import Derived.Shelf.GgClosure.StringsIndexFuncTop
import Derived.Shelf.GgClosure.StringsRunes
import Derived.Shelf.Strings.Prefix
import Derived.Shelf.Strings.Runes
import Derived.Shelf.Strings.AsciiSet
import Derived.Shelf.Unicode.DecodeSlow
import Derived.Shelf.Unicode.DecodeAny
import Derived.Shelf.Unicode.DecodeLast
import Derived.Shelf.Strings.FuncGrows
import Derived.Shelf.Slices.Turned
import Derived.Test.YtnfokaecobddkaaGreatDoorProg
import Derived.Lib.OthersKept
import Derived.Laws.IdiomStrings
set_option linter.all false
section
namespace Go.Proofs.YtnfokaecobddkaaGreatDoor
open Go.RowKit
theorem own_keep {w w' : World} {base : Nat} {e : TypeId} {s : Nat} {v : Value} {n : Nat} {xs : List Value} (h : w.ownsRow base e s v n xs) (hb : Below w.heap.size w w') : w'.ownsRow base e s v n xs :=
  h.kept (row := none) ⟨hb.os, hb.tape, hb.output, hb.size, fun k hk _ => hb.block k hk⟩ (by cases h' : v.ownBlock with | none => exact .inl rfl | some g => exact .inr (by simp))
theorem str_em (s : ByteArray) (h : s.size = 0) : s.toList.isEmpty = true := by
  rw [ByteArray.toList_eq s]
  cases e : s.data.toList with
  | nil => rfl
  | cons a l => have : s.data.toList.length = s.size := by cases s; rfl
                rw [e] at this; simp at this; omega
structure Box (p : Prop) : Prop where
  mk ::
  out : p
def evalE (E : Env) : Operand → Option Value
  | .tmp s => match E s with
    | .inl c => some c
    | .inr _ => none
  | .const v => some v
  | .global g => some (.pointer (some ⟨g, 0, none⟩))
  | .func f => some (.func (.func f) #[] #[])
theorem evalE_of {E : Env} {ops : Array Oper} {o : Oper} {a : Act} {w : World} {x : Operand} {c : Value} (h : evalE E x = some c) (hm : x ∈ o.op.operands)
    (hs : ∀ s ∈ o.looksAt ops, Ty.of (E s) (a.tmps.getD s undef) w) : a.eval x = c := by
  cases x with
  | const v => simpa [evalE, Act.eval] using h
  | global g => simpa [evalE, Act.eval] using h
  | func f => simpa [evalE, Act.eval] using h
  | tmp s =>
    have hv := hs s (looks_of hm rfl)
    simp only [evalE] at h
    cases hE : E s with
    | inl d =>
      rw [hE] at h hv
      simp only [Option.some.injEq] at h
      subst h
      exact hv
    | inr T => rw [hE] at h; cases h
theorem map_of {E : Env} {ops : Array Oper} {o : Oper} {a : Act} {w : World} {xs : Array Operand} {args : Array Value} (h : xs.toList.map (evalE E) = args.toList.map some) (hm : ∀ x ∈ xs, x ∈ o.op.operands)
    (hs : ∀ s ∈ o.looksAt ops, Ty.of (E s) (a.tmps.getD s undef) w) : xs.map a.eval = args := by
  apply Array.ext'
  rw [Array.toList_map]
  have key : ∀ (l : List Operand) (m : List Value), (∀ x ∈ l, x ∈ o.op.operands) → l.map (evalE E) = m.map some → l.map a.eval = m := by
    intro l
    induction l with
    | nil => intro m _ h; cases m with
      | nil => rfl
      | cons _ _ => simp at h
    | cons x l ih => intro m hm h; cases m with
      | nil => simp at h
      | cons c m =>
        simp only [List.map_cons, List.cons.injEq] at h ⊢
        exact ⟨evalE_of h.1 (hm x (by simp)) hs, ih m (fun y hy => hm y (by simp [hy])) h.2⟩
  exact key _ _ (fun x hx => hm x (by simpa using hx)) h
section
variable {ops : Array Oper} {w0 : World} {Fin : List Ty → Prop} {rest : List Oper} {E : Env} {Ts : List Ty} {o : Oper} {P : Program}
theorem tw_fn {f : FuncId} {xs : Array Operand} {ts : Array TypeId} (args : Array Value) (T : Ty) (hst : Stable T) (hop : o.op = .call { callee := .value (.func f), args := xs, argTypes := ts })
    (hcf : ∀ (W : World), (callFunc f args).run P W = .ok (.enter f args) W) (hx : xs.toList.map (evalE E) = args.toList.map some) (hw : Wd ops o E true)
    (hc : ∀ W, Ext w0 W → Calls P f args W fun e w' => ∃ v, e = .returned v ∧ Ext W w' ∧ Ty.of T v w')
    (hr : wpT P ops w0 Fin rest (E.put o.dst T) (T :: Ts)) : wpT P ops w0 Fin (o :: rest) E Ts :=
  tw_call T hst hw (fun a W hW hs => by
    have hm := map_of (o := o) (a := a) (w := W) hx (fun x hx => by rw [hop]; simp [Op.operands, Call.operands, hx]) hs
    refine ⟨f, args, ?_, hc W hW⟩
    unfold execOp
    simp only [hop, resolve, Act.eval, Deferred.ofValue, hm, Sem.run_bind, Sem.run_pure, Result.andThen_ok, invoke, Array.append_empty, Array.empty_append, hcf W]) hr
theorem tw_fnB {f : FuncId} {xs : Array Operand} {ts : Array TypeId} (args : Array Value) (v : Value) (hop : o.op = .call { callee := .value (.func f), args := xs, argTypes := ts })
    (hcf : ∀ (W : World), (callFunc f args).run P W = .ok (.enter f args) W) (hx : xs.toList.map (evalE E) = args.toList.map some) (hw : Wd ops o E true)
    (hc : ∀ W, Ext w0 W → Calls P f args W fun e w' => e = .returned v ∧ Below W.heap.size W w')
    (hr : wpT P ops w0 Fin rest (E.put o.dst (.inl v)) (.inl v :: Ts)) : wpT P ops w0 Fin (o :: rest) E Ts :=
  tw_fn args (.inl v) (stable_is _) hop hcf hx hw (fun W hW => (hc W hW).mono fun e w' h => ⟨v, h.1, h.2, rfl⟩) hr
end
section
variable {ops : Array Oper} {w0 : World} {Fin : List Ty → Prop} {rest : List Oper} {E : Env} {Ts : List Ty} {o : Oper} {P : Program}
theorem tw_op1 {x : Operand} {c : Value} (d : Value) (hop : o.op.operands.toList = [x]) (hE : evalE E x = some c) (hw : Wd ops o E true)
    (h : ∀ (ρ : Operand → Value) (W : World), Ext w0 W → ρ x = c → (execOp ρ o).run P W = .ok (.value d) W)
    (hr : wpT P ops w0 Fin rest (E.put o.dst (.inl d)) (.inl d :: Ts)) : wpT P ops w0 Fin (o :: rest) E Ts :=
  have hm : x ∈ o.op.operands := by rw [← Array.mem_toList_iff, hop]; simp
  tw_pure d hw (fun a W hW hs => h a.eval W hW (evalE_of hE hm hs)) hr
theorem tw_op2 {x y : Operand} {c e : Value} (d : Value) (hop : o.op.operands.toList = [x, y]) (hE : evalE E x = some c) (hE' : evalE E y = some e) (hw : Wd ops o E true)
    (h : ∀ (ρ : Operand → Value) (W : World), Ext w0 W → ρ x = c → ρ y = e → (execOp ρ o).run P W = .ok (.value d) W)
    (hr : wpT P ops w0 Fin rest (E.put o.dst (.inl d)) (.inl d :: Ts)) : wpT P ops w0 Fin (o :: rest) E Ts :=
  have hm : x ∈ o.op.operands := by rw [← Array.mem_toList_iff, hop]; simp
  have hm' : y ∈ o.op.operands := by rw [← Array.mem_toList_iff, hop]; simp
  tw_pure d hw (fun a W hW hs => h a.eval W hW (evalE_of hE hm hs) (evalE_of hE' hm' hs)) hr
theorem tw_pickL {x y z : Operand} {b : Bool} {f : Value} (hop : o.op = .pick x y z) (hE : evalE E x = some (.bool b)) (hE3 : evalE E (if b then y else z) = some f) (hw : Wd ops o E true)
    (hr : wpT P ops w0 Fin rest (E.put o.dst (.inl f)) (.inl f :: Ts)) : wpT P ops w0 Fin (o :: rest) E Ts :=
  tw_pure f hw (fun a W hW hs => by
    have h1 : a.eval x = .bool b := evalE_of hE (by rw [hop]; simp [Op.operands]) hs
    have h2 : a.eval (if b then y else z) = f := evalE_of hE3 (by rw [hop]; cases b <;> simp [Op.operands]) hs
    unfold execOp
    cases b <;> simp_all [asBool]) hr
theorem tw_mv {x : Operand} {c : Value} (hop : o.op = .move x ∨ o.op = .assign x) (hE : evalE E x = some c) (hw : Wd ops o E true)
    (hr : wpT P ops w0 Fin rest (E.put o.dst (.inl c)) (.inl c :: Ts)) : wpT P ops w0 Fin (o :: rest) E Ts :=
  tw_pure c hw (fun a W hW hs => by
    have h1 : a.eval x = c := evalE_of hE (by rcases hop with h | h <;> rw [h] <;> simp [Op.operands]) hs
    unfold execOp
    rcases hop with h | h <;> simp [h, h1]) hr
theorem tw_lens {x : Operand} {s : ByteArray} (hop : o.op = .call { callee := .builtin .len, args := #[x], argTypes := #[9] }) (hE : evalE E x = some (.string s)) (hw : Wd ops o E true)
    (hr : wpT Tryz.prog ops w0 Fin rest (E.put o.dst (.inl (.int .i64 (s.size : Int)))) (.inl (.int .i64 (s.size : Int)) :: Ts)) : wpT Tryz.prog ops w0 Fin (o :: rest) E Ts :=
  tw_pure _ hw (fun a W hW hs => by
    have h1 : a.eval x = .string s := evalE_of hE (by rw [hop]; simp [Op.operands, Call.operands]) hs
    unfold execOp
    simp only [hop, resolve, invoke, builtin, Sem.run_bind, Sem.run_pure, Result.andThen_ok, List.map_toArray, List.map_cons, List.map_nil, h1]
    go_simp) hr
end
end Go.Proofs.YtnfokaecobddkaaGreatDoor
end
section
namespace Go.Proofs.YtnfokaecobddkaaGreatDoor
open Go.RowKit
set_option linter.unusedSimpArgs false
set_option linter.unusedVariables false
theorem ret_two {v v' u u' : Value} (h : v = v') (k : u = u') : Ending.returned (.tuple #[v, u]) = .returned (.tuple #[v', u']) := by rw [h, k]
def BytesPost (l : List Int) (w : World) (e : Ending) (w' : World) : Prop := ∃ A c, e = .returned (.slice A l.length c) ∧ Rd w' w'.heap.size 1 A l.length (ints .u8 l) ∧ Below w.heap.size w w' ∧ l.length ≤ c
theorem BytesPost.new (l : List Int) (w : World) (t : TypeId) : BytesPost l w (.returned (.slice (some ⟨w.heap.size, 0, none⟩) l.length l.length)) (w.alloc (.cells (ints .u8 l).toArray t)) := by
  have h := Rd.new w t (ints .u8 l).toArray (s := 1) (n := l.length) (by simp [ints])
  exact ⟨_, _, rfl, by simpa using h, (Below.refl _ _).alloc (Nat.le_refl _) _, Nat.le_refl _⟩
end Go.Proofs.YtnfokaecobddkaaGreatDoor
end
section
namespace Go.Proofs.YtnfokaecobddkaaGreatDoor
open Go.RowKit
set_option linter.unusedSimpArgs false
set_option linter.unusedVariables false
theorem BytesPost.ty {l : List Int} {w w' : World} {e : Ending} (h : BytesPost l w e w') : ∃ v, e = .returned v ∧ Ext w w' ∧ Ty.of (SlT .u8 l) v w' := by
  obtain ⟨A, c, rfl, hr, hb, _⟩ := h
  exact ⟨_, rfl, hb, A, c, rfl, hr⟩
theorem str_ne (s : ByteArray) (h : 0 < s.size) : s.toList.isEmpty = false := by
  have : s.toList.length = s.size := by rw [ByteArray.toList_eq s]; cases s; rfl
  cases e : s.toList with
  | nil => rw [e] at this; simp at this; omega
  | cons a l => rfl
theorem at_eq (s : ByteArray) (k : Nat) (h : k < s.size) : (s[k]'h).toNat = b_at s k := by
  show (s[k]'h).toNat = (s.get! k).toNat
  congr 1
  simp [ByteArray.get!, ByteArray.getElem_eq_getElem_data, h]
end Go.Proofs.YtnfokaecobddkaaGreatDoor
end
section
namespace Go.Proofs.YtnfokaecobddkaaGreatDoor
open Go.RowKit
set_option linter.unusedSimpArgs false
set_option linter.unusedVariables false
theorem info_i64 : (Tryz.prog.info? 3).map (fun i => (i.zero, i.size, i.bytes)) = some (some (.int .i64 0), 1, 8) := by kernel_rfl
theorem app_i64s {w : World} {ops : Array Oper} {rest : List Oper} {o : Oper} {a : Act} {Q : Exit → Act → World → Prop} (hgd : o.guard = none) (s x : Operand)
    (ho : o.op = .call { callee := .builtin .append, args := #[s, x], argTypes := #[121, 121] })
    (base : Nat) (v : Value) (n : Nat) (xs : List Int) (hs : a.eval s = v) (hown : w.ownsRow base 3 1 v n (ints .i64 xs))
    (B : Nat) (A : Option Addr) (m c : Nat) (news : List Int) (hx : a.eval x = .slice A m c) (hr : Rd w B 1 A m (ints .i64 news)) (hb : n + m ≤ 1000000000000) (hbase : base ≤ w.heap.size)
    (h : ∀ v' w', w'.ownsRow base 3 1 v' (n + m) (ints .i64 (xs ++ news)) → w.grownBy w' v.ownBlock → (v'.ownBlock = v.ownBlock ∨ v'.ownBlock = some w.heap.size) → wpList Tryz.prog ops Q rest (a.put o.dst v') w') : wpList Tryz.prog ops Q (o :: rest) a w := by
  obtain ⟨i0, hi, hz0, hz1, hz2⟩ := info_parts info_i64
  refine app_wpList w hgd s x _ ho base _ i0 (.int .i64 0) 1 8 Tryz.underlying121 hi hz0 hz1 hz2 rfl (by decide) v n _ hs hown B A m c _ hx hr ints_one (by unfold maxLen; omega) (by omega) hbase ?_
  rw [← ints_append]; exact h
theorem ext_size (s : ByteArray) (i : Nat) : (s.extract i s.size).size = s.size - i := by simp
theorem dec_ext (s : ByteArray) (i : Nat) : Utf8.decode (s.extract i s.size) 0 = Utf8.decode s i := Lib.tail_decode s i 0
theorem dec_le (s : ByteArray) (h : 0 < s.size) : (Utf8.decode s 0).2 ≤ s.size - 0 := by
  rw [Lib.decode_at s 0]
  have h' : 1 ≤ s.size - 0 := by omega
  generalize s.size - 0 = n at *
  rcases Lib.decodeN_shape n (s.get! 0).toNat (s.get! (0 + 1)).toNat (s.get! (0 + 2)).toNat (s.get! (0 + 3)).toNat with ⟨_, e⟩ | ⟨_, _, _, _, e⟩ | ⟨_, _, _, _, _, _, e⟩ | ⟨_, _, _, _, _, _, _, e⟩ | e <;> rw [e] <;> simp only [] <;> omega
theorem dec_in (s : ByteArray) (i : Nat) (h : i < s.size) : i + (Utf8.decode s i).2 ≤ s.size := by
  rw [← dec_ext s i]
  have := dec_le (s.extract i s.size) (by rw [ext_size]; omega)
  rw [ext_size] at this
  omega
end Go.Proofs.YtnfokaecobddkaaGreatDoor
end
section
namespace Go.Proofs
open Go.Shelf
def Tryz.lays160_ren : Go.Shelf.Ren := ⟨fun | 160 => 82 | 232 => 130 | 231 => 129 | 227 => 131 | 234 => 133 | 233 => 132 | 236 => 135 | 235 => 134 | 228 => 177 | 271 => 179 | 151 => 146 | 197 => 178 | 120 => 210 | 152 => 184 | 260 => 209 | 137 => 148 | 119 => 175 | 224 => 217 | 225 => 218 | 217 => 185 | 266 => 219 | n => n, fun | 9 => 9 | 4 => 4 | 3 => 3 | 5 => 5 | 117 => 181 | 116 => 180 | 0 => 0 | 124 => 184 | 21 => 21 | 105 => 240 | 46 => 236 | 119 => 304 | 139 => 307 | 138 => 306 | n => n, fun | 3 => 2 | 4 => 3 | n => n⟩
theorem Tryz.lays160 : Go.Proofs.Lays.n160 Tryz.prog Tryz.lays160_ren := {
  mixed := by kernel_rfl
  f119 := Tryz.func175.trans (congrArg some (by kernel_rfl))
  f120 := Tryz.func210.trans (congrArg some (by kernel_rfl))
  f137 := Tryz.func148.trans (congrArg some (by kernel_rfl))
  f151 := Tryz.func146.trans (congrArg some (by kernel_rfl))
  f152 := Tryz.func184.trans (congrArg some (by kernel_rfl))
  f160 := Tryz.func82.trans (congrArg some (by kernel_rfl))
  f197 := Tryz.func178.trans (congrArg some (by kernel_rfl))
  f217 := Tryz.func185.trans (congrArg some (by kernel_rfl))
  f224 := Tryz.func217.trans (congrArg some (by kernel_rfl))
  f225 := Tryz.func218.trans (congrArg some (by kernel_rfl))
  f227 := Tryz.func131.trans (congrArg some (by kernel_rfl))
  f228 := Tryz.func177.trans (congrArg some (by kernel_rfl))
  f231 := Tryz.func129.trans (congrArg some (by kernel_rfl))
  f232 := Tryz.func130.trans (congrArg some (by kernel_rfl))
  f233 := Tryz.func132.trans (congrArg some (by kernel_rfl))
  f234 := Tryz.func133.trans (congrArg some (by kernel_rfl))
  f235 := Tryz.func134.trans (congrArg some (by kernel_rfl))
  f236 := Tryz.func135.trans (congrArg some (by kernel_rfl))
  f260 := Tryz.func209.trans (congrArg some (by kernel_rfl))
  f266 := Tryz.func219.trans (congrArg some (by kernel_rfl))
  f271 := Tryz.func179.trans (congrArg some (by kernel_rfl))
  t0 := Tryz.underlying0
  a0 := Tryz.isAgg0
  z0 := Tryz.sizeOf0
  v0 := Tryz.zeroValue0
  t3 := Tryz.underlying3
  a3 := Tryz.isAgg3
  z3 := Tryz.sizeOf3
  v3 := Tryz.zeroValue3
  t4 := Tryz.underlying4
  a4 := Tryz.isAgg4
  z4 := Tryz.sizeOf4
  v4 := Tryz.zeroValue4
  t5 := Tryz.underlying5
  a5 := Tryz.isAgg5
  z5 := Tryz.sizeOf5
  v5 := Tryz.zeroValue5
  t9 := Tryz.underlying9
  a9 := Tryz.isAgg9
  z9 := Tryz.sizeOf9
  v9 := Tryz.zeroValue9
  t21 := Tryz.underlying21
  a21 := Tryz.isAgg21
  z21 := Tryz.sizeOf21
  v21 := Tryz.zeroValue21
  t46 := Tryz.underlying236
  a46 := Tryz.isAgg236
  z46 := Tryz.sizeOf236
  v46 := Tryz.zeroValue236
  t105 := Tryz.underlying240
  a105 := Tryz.isAgg240
  z105 := Tryz.sizeOf240
  v105 := Tryz.zeroValue240
  t116 := Tryz.underlying180
  a116 := Tryz.isAgg180
  z116 := Tryz.sizeOf180
  t117 := Tryz.underlying181
  a117 := Tryz.isAgg181
  z117 := Tryz.sizeOf181
  v117 := Tryz.zeroValue181
  t119 := Tryz.underlying304
  a119 := Tryz.isAgg304
  z119 := Tryz.sizeOf304
  t124 := Tryz.underlying184
  a124 := Tryz.isAgg184
  z124 := Tryz.sizeOf184
  v124 := Tryz.zeroValue184
  t138 := Tryz.underlying306
  a138 := Tryz.isAgg306
  z138 := Tryz.sizeOf306
  v138 := Tryz.zeroValue306
  t139 := Tryz.underlying307
  a139 := Tryz.isAgg307
  z139 := Tryz.sizeOf307
  v139 := Tryz.zeroValue307
  g3 := by kernel_rfl
  g4 := by kernel_rfl }
def Tryz.lays119_ren : Go.Shelf.Ren := ⟨fun | 119 => 175 | n => n, fun | 21 => 21 | 4 => 4 | n => n, fun | n => n⟩
theorem Tryz.lays119 : Go.Proofs.Lays.n119 Tryz.prog Tryz.lays119_ren := {
  mixed := by kernel_rfl
  f119 := Tryz.func175.trans (congrArg some (by kernel_rfl))
  t4 := Tryz.underlying4
  a4 := Tryz.isAgg4
  z4 := Tryz.sizeOf4
  v4 := Tryz.zeroValue4
  t21 := Tryz.underlying21
  a21 := Tryz.isAgg21
  z21 := Tryz.sizeOf21
  v21 := Tryz.zeroValue21 }
theorem Tryz.utf8_ValidRune (r : Int) (w : World) :
    Calls Tryz.prog 175 #[.int .i32 r] w fun e w' => e = .returned (.bool (Lib.validRune r)) ∧ w' = w := Any.utf8_ValidRune Tryz.lays119 r w
def Tryz.lays137_ren : Go.Shelf.Ren := ⟨fun | 137 => 148 | 217 => 185 | 266 => 219 | n => n, fun | 9 => 9 | 5 => 5 | 3 => 3 | n => n, fun | n => n⟩
theorem Tryz.lays137 : Go.Proofs.Lays.n137 Tryz.prog Tryz.lays137_ren := {
  mixed := by kernel_rfl
  f137 := Tryz.func148.trans (congrArg some (by kernel_rfl))
  f217 := Tryz.func185.trans (congrArg some (by kernel_rfl))
  f266 := Tryz.func219.trans (congrArg some (by kernel_rfl))
  t3 := Tryz.underlying3
  a3 := Tryz.isAgg3
  z3 := Tryz.sizeOf3
  v3 := Tryz.zeroValue3
  t5 := Tryz.underlying5
  a5 := Tryz.isAgg5
  z5 := Tryz.sizeOf5
  v5 := Tryz.zeroValue5
  t9 := Tryz.underlying9
  a9 := Tryz.isAgg9
  z9 := Tryz.sizeOf9
  v9 := Tryz.zeroValue9 }
open Go.RowKit in
theorem Tryz.strings_IndexByte (s : ByteArray) (c : Int) (w : World) :
    Calls Tryz.prog 148 #[.string s, .int .u8 c] w fun e w' => e = .returned (.int .i64 (Lib.indexByte s.data.toList c.toNat.toUInt8)) ∧ w' = w := Any.strings_IndexByte Tryz.lays137 s c w
def Tryz.lays219_ren : Go.Shelf.Ren := ⟨fun | 219 => 208 | 217 => 185 | 225 => 218 | 224 => 217 | 267 => 235 | 266 => 219 | 314 => 248 | n => n, fun | 9 => 9 | 3 => 3 | 4 => 4 | 5 => 5 | 46 => 236 | 146 => 322 | 51 => 310 | n => n, fun | 1 => 1 | n => n⟩
theorem Tryz.lays219 : Go.Proofs.Lays.n219 Tryz.prog Tryz.lays219_ren := {
  mixed := by kernel_rfl
  f217 := Tryz.func185.trans (congrArg some (by kernel_rfl))
  f219 := Tryz.func208.trans (congrArg some (by kernel_rfl))
  f224 := Tryz.func217.trans (congrArg some (by kernel_rfl))
  f225 := Tryz.func218.trans (congrArg some (by kernel_rfl))
  f266 := Tryz.func219.trans (congrArg some (by kernel_rfl))
  f267 := Tryz.func235.trans (congrArg some (by kernel_rfl))
  f314 := Tryz.func248.trans (congrArg some (by kernel_rfl))
  t3 := Tryz.underlying3
  a3 := Tryz.isAgg3
  z3 := Tryz.sizeOf3
  v3 := Tryz.zeroValue3
  t4 := Tryz.underlying4
  a4 := Tryz.isAgg4
  z4 := Tryz.sizeOf4
  v4 := Tryz.zeroValue4
  t5 := Tryz.underlying5
  a5 := Tryz.isAgg5
  z5 := Tryz.sizeOf5
  v5 := Tryz.zeroValue5
  t9 := Tryz.underlying9
  a9 := Tryz.isAgg9
  z9 := Tryz.sizeOf9
  v9 := Tryz.zeroValue9
  t46 := Tryz.underlying236
  a46 := Tryz.isAgg236
  z46 := Tryz.sizeOf236
  v46 := Tryz.zeroValue236
  t51 := Tryz.underlying310
  a51 := Tryz.isAgg310
  z51 := Tryz.sizeOf310
  v51 := Tryz.zeroValue310
  t146 := Tryz.underlying322
  a146 := Tryz.isAgg322
  z146 := Tryz.sizeOf322
  v146 := Tryz.zeroValue322
  g1 := by kernel_rfl }
open Go.RowKit Go.Lib in
theorem Tryz.stringslite_Index_one (s : ByteArray) (c : UInt8) (w : World) :
    Calls Tryz.prog 208 #[.string s, .string ⟨#[c]⟩] w fun e w' => e = .returned (.int .i64 (Lib.indexByte s.data.toList c)) ∧ w' = w := Any.stringslite_Index_one Tryz.lays219 s c w
def Tryz.lays144_ren : Go.Shelf.Ren := ⟨fun | 144 => 149 | 143 => 186 | 219 => 208 | 217 => 185 | 225 => 218 | 224 => 217 | 267 => 235 | 266 => 219 | 314 => 248 | n => n, fun | 9 => 9 | 4 => 4 | 3 => 3 | 5 => 5 | 46 => 236 | 146 => 322 | 51 => 310 | n => n, fun | 1 => 1 | n => n⟩
theorem Tryz.lays144 : Go.Proofs.Lays.n144 Tryz.prog Tryz.lays144_ren := {
  mixed := by kernel_rfl
  f143 := Tryz.func186.trans (congrArg some (by kernel_rfl))
  f144 := Tryz.func149.trans (congrArg some (by kernel_rfl))
  f217 := Tryz.func185.trans (congrArg some (by kernel_rfl))
  f219 := Tryz.func208.trans (congrArg some (by kernel_rfl))
  f224 := Tryz.func217.trans (congrArg some (by kernel_rfl))
  f225 := Tryz.func218.trans (congrArg some (by kernel_rfl))
  f266 := Tryz.func219.trans (congrArg some (by kernel_rfl))
  f267 := Tryz.func235.trans (congrArg some (by kernel_rfl))
  f314 := Tryz.func248.trans (congrArg some (by kernel_rfl))
  t3 := Tryz.underlying3
  a3 := Tryz.isAgg3
  z3 := Tryz.sizeOf3
  v3 := Tryz.zeroValue3
  t4 := Tryz.underlying4
  a4 := Tryz.isAgg4
  z4 := Tryz.sizeOf4
  v4 := Tryz.zeroValue4
  t5 := Tryz.underlying5
  a5 := Tryz.isAgg5
  z5 := Tryz.sizeOf5
  v5 := Tryz.zeroValue5
  t9 := Tryz.underlying9
  a9 := Tryz.isAgg9
  z9 := Tryz.sizeOf9
  v9 := Tryz.zeroValue9
  t46 := Tryz.underlying236
  a46 := Tryz.isAgg236
  z46 := Tryz.sizeOf236
  v46 := Tryz.zeroValue236
  t51 := Tryz.underlying310
  a51 := Tryz.isAgg310
  z51 := Tryz.sizeOf310
  v51 := Tryz.zeroValue310
  t146 := Tryz.underlying322
  a146 := Tryz.isAgg322
  z146 := Tryz.sizeOf322
  v146 := Tryz.zeroValue322
  g1 := by kernel_rfl }
open Go.RowKit Go.Lib in
theorem Tryz.strings_Contains (s sub : ByteArray) (m : Int) (w : World) (hs : s.size < 4294967281) (hm : w.cell? ⟨1, 0, none⟩ = some (.int .i64 m)) :
    Calls Tryz.prog 149 #[.string s, .string sub] w fun e w' => e = .returned (.bool (Lib.contains s.data.toList sub.data.toList)) ∧ w' = w := Any.strings_Contains Tryz.lays144 s sub m w hs hm
def Tryz.laysGw17_ren : Go.Shelf.Ren := ⟨fun | 17 => 144 | 15 => 183 | 20 => 216 | n => n, fun | 9 => 9 | 23 => 196 | 4 => 4 | 3 => 3 | 0 => 0 | 21 => 21 | n => n, fun | n => n⟩
theorem Tryz.laysGw17 : Go.Proofs.LaysGw.n17 Tryz.prog Tryz.laysGw17_ren := {
  mixed := by kernel_rfl
  f15 := Tryz.func183.trans (congrArg some (by kernel_rfl))
  f17 := Tryz.func144.trans (congrArg some (by kernel_rfl))
  f20 := Tryz.func216.trans (congrArg some (by kernel_rfl))
  t0 := Tryz.underlying0
  a0 := Tryz.isAgg0
  z0 := Tryz.sizeOf0
  v0 := Tryz.zeroValue0
  i0 := by kernel_rfl
  t3 := Tryz.underlying3
  a3 := Tryz.isAgg3
  z3 := Tryz.sizeOf3
  v3 := Tryz.zeroValue3
  i3 := by kernel_rfl
  t4 := Tryz.underlying4
  a4 := Tryz.isAgg4
  z4 := Tryz.sizeOf4
  v4 := Tryz.zeroValue4
  i4 := by kernel_rfl
  t9 := Tryz.underlying9
  a9 := Tryz.isAgg9
  z9 := Tryz.sizeOf9
  v9 := Tryz.zeroValue9
  i9 := by kernel_rfl
  t21 := Tryz.underlying21
  a21 := Tryz.isAgg21
  z21 := Tryz.sizeOf21
  v21 := Tryz.zeroValue21
  i21 := by kernel_rfl
  t23 := Tryz.underlying196
  a23 := Tryz.isAgg196
  z23 := Tryz.sizeOf196
  v23 := Tryz.zeroValue196
  i23 := by kernel_rfl }
open Go.RowKit Go.Lib in
theorem Tryz.strings_ContainsFunc_runes (g : Nat) (lb : Array Value) (eg : ∀ args w, (callFunc g args).run Tryz.prog w = .ok (.enter g args) w) (p : Nat → Bool) (s : ByteArray) (w : World) (hp : PredAtRunes Tryz.prog g lb p w) :
    Calls Tryz.prog 144 #[.string s, .func (.func g) #[] lb] w fun e w' => e = .returned (.bool (decide (0 ≤ Lib.idxFunc p true s))) ∧ Below w.heap.size w w' := Any.strings_ContainsFunc_runes Tryz.laysGw17 g lb eg p s w hp
def Tryz.lays99_ren : Go.Shelf.Ren := ⟨fun | 99 => 123 | 206 => 174 | n => n, fun | 9 => 9 | 4 => 4 | 3 => 3 | n => n, fun | n => n⟩
theorem Tryz.lays99 : Go.Proofs.Lays.n99 Tryz.prog Tryz.lays99_ren := {
  mixed := by kernel_rfl
  f99 := Tryz.func123.trans (congrArg some (by kernel_rfl))
  f206 := Tryz.func174.trans (congrArg some (by kernel_rfl))
  t3 := Tryz.underlying3
  a3 := Tryz.isAgg3
  z3 := Tryz.sizeOf3
  v3 := Tryz.zeroValue3
  t4 := Tryz.underlying4
  a4 := Tryz.isAgg4
  z4 := Tryz.sizeOf4
  v4 := Tryz.zeroValue4
  t9 := Tryz.underlying9
  a9 := Tryz.isAgg9
  z9 := Tryz.sizeOf9
  v9 := Tryz.zeroValue9 }
open Go.RowKit Go.Lib in
theorem Tryz.strings_HasPrefix (s p : ByteArray) (w : World) :
    Calls Tryz.prog 123 #[.string s, .string p] w fun e w' => e = .returned (.bool (Lib.hasPrefix s.data.toList p.data.toList)) ∧ w' = w := Any.strings_HasPrefix Tryz.lays99 s p w
def Tryz.lays151_ren : Go.Shelf.Ren := ⟨fun | 151 => 146 | 152 => 184 | 137 => 148 | 119 => 175 | 224 => 217 | 225 => 218 | 217 => 185 | 266 => 219 | n => n, fun | 9 => 9 | 21 => 21 | 4 => 4 | 3 => 3 | 5 => 5 | 0 => 0 | 46 => 236 | n => n, fun | n => n⟩
theorem Tryz.lays151 : Go.Proofs.Lays.n151 Tryz.prog Tryz.lays151_ren := {
  mixed := by kernel_rfl
  f119 := Tryz.func175.trans (congrArg some (by kernel_rfl))
  f137 := Tryz.func148.trans (congrArg some (by kernel_rfl))
  f151 := Tryz.func146.trans (congrArg some (by kernel_rfl))
  f152 := Tryz.func184.trans (congrArg some (by kernel_rfl))
  f217 := Tryz.func185.trans (congrArg some (by kernel_rfl))
  f224 := Tryz.func217.trans (congrArg some (by kernel_rfl))
  f225 := Tryz.func218.trans (congrArg some (by kernel_rfl))
  f266 := Tryz.func219.trans (congrArg some (by kernel_rfl))
  t0 := Tryz.underlying0
  a0 := Tryz.isAgg0
  z0 := Tryz.sizeOf0
  v0 := Tryz.zeroValue0
  t3 := Tryz.underlying3
  a3 := Tryz.isAgg3
  z3 := Tryz.sizeOf3
  v3 := Tryz.zeroValue3
  t4 := Tryz.underlying4
  a4 := Tryz.isAgg4
  z4 := Tryz.sizeOf4
  v4 := Tryz.zeroValue4
  t5 := Tryz.underlying5
  a5 := Tryz.isAgg5
  z5 := Tryz.sizeOf5
  v5 := Tryz.zeroValue5
  t9 := Tryz.underlying9
  a9 := Tryz.isAgg9
  z9 := Tryz.sizeOf9
  v9 := Tryz.zeroValue9
  t21 := Tryz.underlying21
  a21 := Tryz.isAgg21
  z21 := Tryz.sizeOf21
  v21 := Tryz.zeroValue21
  t46 := Tryz.underlying236
  a46 := Tryz.isAgg236
  z46 := Tryz.sizeOf236
  v46 := Tryz.zeroValue236 }
open Go.RowKit Go.Lib in
theorem Tryz.strings_ContainsRune_ascii (s : ByteArray) (r : Int) (w : World) (h0 : 0 ≤ r) (h1 : r < 128) :
    Calls Tryz.prog 146 #[.string s, .int .i32 r] w fun e w' => e = .returned (.bool (decide (0 ≤ Lib.indexByte s.data.toList r.toNat.toUInt8))) ∧ w' = w := Any.strings_ContainsRune_ascii Tryz.lays151 s r w h0 h1
end Go.Proofs
end
section
namespace Go.Proofs.YtnfokaecobddkaaGreatDoor
open Go.RowKit
set_option linter.unusedSimpArgs false
set_option linter.unusedVariables false
theorem valid_may (n : Int) (h0 : 0 ≤ n) : Lib.validRune n = decide (n < 55296 ∨ (57343 < n ∧ n ≤ 1114111)) := by
  unfold Lib.validRune
  first | rfl | decide | (rw [Bool.eq_iff_iff]; simp only [Bool.and_eq_true, Bool.or_eq_true, Bool.not_eq_true', Bool.not_eq_true, decide_eq_true_eq, decide_eq_false_iff_not, beq_iff_eq, bne_iff_ne, beq_eq_false_iff_ne, bne_eq_false_iff_eq, Bool.false_eq_true, ne_eq, true_and, and_true, false_or, or_false, reduceCtorEq, false_iff, true_iff, iff_false, iff_true]; omega) | (simp; done) | (simp; omega)
theorem may_any (n : Int) (w : World) (h0 : 0 ≤ n) (h1 : n ≤ 2147483647) : Calls Tryz.prog 124 #[.int .i64 n] w fun e w' => e = .returned (.bool (mayP n)) ∧ w = w' := by
  have HV := Lib.hid (fun W => Tryz.utf8_ValidRune n W)
  rw [valid_may n h0] at HV
  have hc : ∃ r, mayP n = r ∧ (((n = 9 ∨ n = 10 ∨ n = 13) ∧ r = true) ∨ ((¬ n = 9 ∧ ¬ n = 10 ∧ ¬ n = 13) ∧ (n < 32 ∨ n = 65534 ∨ n = 65535 ∨ 1114111 < n) ∧ r = false) ∨ ((32 ≤ n ∧ ¬ n = 65534 ∧ ¬ n = 65535 ∧ n ≤ 1114111) ∧ r = decide (n < 55296 ∨ (57343 < n ∧ n ≤ 1114111)))) := by
    refine ⟨_, rfl, ?_⟩
    unfold mayP
    by_cases h : n < 32
    · rw [if_pos h]
      by_cases h2 : n = 9 ∨ n = 10 ∨ n = 13
      · exact .inl ⟨h2, by simpa using h2⟩
      · exact .inr (.inl ⟨by omega, .inl h, by simpa using h2⟩)
    · rw [if_neg h]
      by_cases h2 : n = 65534 ∨ n = 65535 ∨ 1114111 < n
      · exact .inr (.inl ⟨by omega, .inr h2, by rw [decide_eq_false_iff_not]; omega⟩)
      · refine .inr (.inr ⟨by omega, ?_⟩)
        first | rfl | decide | (rw [Bool.eq_iff_iff]; simp only [Bool.and_eq_true, Bool.or_eq_true, Bool.not_eq_true', Bool.not_eq_true, decide_eq_true_eq, decide_eq_false_iff_not, beq_iff_eq, bne_iff_ne, beq_eq_false_iff_ne, bne_eq_false_iff_eq, Bool.false_eq_true, ne_eq, true_and, and_true, false_or, or_false, reduceCtorEq, false_iff, true_iff, iff_false, iff_true]; omega) | (simp; done) | (simp; omega)
  obtain ⟨r, hr, hc⟩ := hc
  rw [hr]
  clear hr
  rcases hc with ⟨h, rfl⟩ | ⟨⟨k1, k2, k3⟩, h, rfl⟩ | ⟨⟨k1, k2, k3, k4⟩, rfl⟩
  · rcases h with rfl | rfl | rfl
    all_goals
      go_enter Tryz.func124, Tryz.ntmps124
      go_wp2
      go_ret
      exact ⟨rfl, rfl⟩
  · have q1 : (n == 9) = false := by simpa using k1
    have q2 : (n == 10) = false := by simpa using k2
    have q3 : (n == 13) = false := by simpa using k3
    rcases h with h | rfl | rfl | h
    all_goals
      go_enter Tryz.func124, Tryz.ntmps124
      go_wp2
      all_goals first
        | (go_ret; exact ⟨rfl, rfl⟩)
        | (exfalso; omega)
  · have q1 : (n == 9) = false := by rw [beq_eq_false_iff_ne]; omega
    have q2 : (n == 10) = false := by rw [beq_eq_false_iff_ne]; omega
    have q3 : (n == 13) = false := by rw [beq_eq_false_iff_ne]; omega
    have q4 : (n == 65534) = false := by simpa using k2
    have q5 : (n == 65535) = false := by simpa using k3
    go_enter Tryz.func124, Tryz.ntmps124
    go_wp2_with fail
    refine (HV.out _).mono ?_
    rintro e w1 ⟨rfl, rfl⟩
    go_wp2
    go_ret
    exact ⟨ret_bool (by first | rfl | decide | (rw [Bool.eq_iff_iff]; simp only [Bool.and_eq_true, Bool.or_eq_true, Bool.not_eq_true', Bool.not_eq_true, decide_eq_true_eq, decide_eq_false_iff_not, beq_iff_eq, bne_iff_ne, beq_eq_false_iff_ne, bne_eq_false_iff_eq, Bool.false_eq_true, ne_eq, true_and, and_true, false_or, or_false, reduceCtorEq, false_iff, true_iff, iff_false, iff_true]; omega) | (simp; done) | (simp; omega)), rfl⟩
theorem fffd_list (l : List UInt8) (h : 0 < l.length) (hr : (Lib.decodeN l.length (l.getD 0 0).toNat (l.getD 1 0).toNat (l.getD 2 0).toNat (l.getD 3 0).toNat).1 = 65533) :
    [239, 191, 189].isPrefixOf l = decide ((Lib.decodeN l.length (l.getD 0 0).toNat (l.getD 1 0).toNat (l.getD 2 0).toNat (l.getD 3 0).toNat).2 ≠ 1) := by
  match l, h with
  | [a], _ =>
    have hs := Lib.decodeN_shape 1 a.toNat 0 0 0
    have ha := a.toNat_lt
    simp only [List.length_cons, List.length_nil, List.getD_cons_zero, List.getD_cons_succ, List.getD_nil, Nat.zero_add] at hr ⊢
    have e : ([239, 191, 189] : List UInt8).isPrefixOf [a] = false := by simp [List.isPrefixOf]
    rw [e]
    symm
    rw [decide_eq_false_iff_not]
    rcases hs with ⟨h1, e⟩ | ⟨_, h1, _⟩ | ⟨_, h1, _⟩ | ⟨_, h1, _⟩ | e
    · have e' : Lib.decodeN 1 a.toNat (UInt8.toNat 0) (UInt8.toNat 0) (UInt8.toNat 0) = (a.toNat, 1) := e
      rw [e']; simp
    · omega
    · omega
    · omega
    · have e' : Lib.decodeN 1 a.toNat (UInt8.toNat 0) (UInt8.toNat 0) (UInt8.toNat 0) = (65533, 1) := e
      rw [e']; simp
  | [a, b], _ =>
    have hs := Lib.decodeN_shape 2 a.toNat b.toNat 0 0
    have ha := a.toNat_lt
    simp only [List.length_cons, List.length_nil, List.getD_cons_zero, List.getD_cons_succ, List.getD_nil, Nat.zero_add, Nat.reduceAdd] at hr ⊢
    have e : ([239, 191, 189] : List UInt8).isPrefixOf [a, b] = false := by simp [List.isPrefixOf]
    rw [e]
    symm
    rw [decide_eq_false_iff_not]
    have hz : UInt8.toNat 0 = 0 := rfl
    rw [hz] at hr ⊢
    rcases hs with ⟨h1, e⟩ | ⟨k0, h1, k1, k2, e⟩ | ⟨_, h1, _⟩ | ⟨_, h1, _⟩ | e
    · rw [e]; simp
    · rw [e] at hr; simp only [] at hr; omega
    · omega
    · omega
    · rw [e]; simp
  | a :: b :: c :: t, _ =>
    have hs := Lib.decodeN_shape (t.length + 1 + 1 + 1) a.toNat b.toNat c.toNat (t.getD 0 0).toNat
    have ha := a.toNat_lt
    have hb := b.toNat_lt
    have hc := c.toNat_lt
    simp only [List.length_cons, List.getD_cons_zero, List.getD_cons_succ] at hr ⊢
    have e : ([239, 191, 189] : List UInt8).isPrefixOf (a :: b :: c :: t) = decide (a.toNat = 239 ∧ b.toNat = 191 ∧ c.toNat = 189) := by
      simp only [List.isPrefixOf, Bool.and_true]
      rw [Bool.eq_iff_iff]
      simp only [Bool.and_eq_true, beq_iff_eq, decide_eq_true_eq, ← UInt8.toNat_inj]
      simp
      omega
    rw [e]
    have hgood : a.toNat = 239 ∧ b.toNat = 191 ∧ c.toNat = 189 → Lib.decodeN (t.length + 1 + 1 + 1) a.toNat b.toNat c.toNat (t.getD 0 0).toNat = (65533, 3) := by
      rintro ⟨e1, e2, e3⟩
      rw [e1, e2, e3]
      unfold Lib.decodeN
      rw [if_neg (by omega), if_neg (by omega), if_pos (by omega), if_pos (by omega)]
    generalize Lib.decodeN (t.length + 1 + 1 + 1) a.toNat b.toNat c.toNat (t.getD 0 0).toNat = D at *
    rcases hs with ⟨h1, rfl⟩ | ⟨k0, h1, k1, k2, rfl⟩ | ⟨k0, h1, k1, k2, k3, k4, rfl⟩ | ⟨k0, h1, k1, k2, k3, k4, k5, rfl⟩ | rfl
    all_goals
      simp only [] at hr ⊢
      rw [decide_eq_decide]
      first
        | omega
        | (refine ⟨fun h => ?_, fun h => ?_⟩ <;> first | (have := hgood h; simp at this; done) | (exact absurd rfl h) | omega)
theorem fffd (s : ByteArray) (i : Nat) (h : i < s.size) (hr : (Utf8.decode s i).1 = 65533) : Lib.hasPrefix (s.extract i s.size).data.toList [239, 191, 189] = decide ((Utf8.decode s i).2 ≠ 1) := by
  have hl : 0 < (s.extract i s.size).data.toList.length := by
    have : (s.extract i s.size).data.toList.length = (s.extract i s.size).size := rfl
    rw [this, ext_size]; omega
  have hd : Utf8.decode s i = Lib.decodeN (s.extract i s.size).data.toList.length ((s.extract i s.size).data.toList.getD 0 0).toNat ((s.extract i s.size).data.toList.getD 1 0).toNat ((s.extract i s.size).data.toList.getD 2 0).toNat ((s.extract i s.size).data.toList.getD 3 0).toNat := by
    rw [← dec_ext s i, Lib.decode_N]
    rfl
  rw [hd] at hr ⊢
  exact fffd_list _ hl hr
theorem own_iter {w : World} {base k : Nat} {e : TypeId} {z : Nat} {v : Value} {n : Nat} {xs : List Value} (h : w.ownsRow base e z v n xs) (hk : k < base) (s : ByteArray) (p : Nat) : (w.iterAt k s p).ownsRow base e z v n xs :=
  h.kept (row := some k) ⟨rfl, rfl, rfl, by rw [Lib.iterAt_size]; exact Nat.le_refl _, fun j _ hj => Lib.iterAt_other w k j s p (fun e => hj (by rw [e]))⟩ (by cases h' : v.ownBlock with
    | none => exact .inl rfl
    | some g =>
      refine .inr fun e => ?_
      have := (h.lt g h').1
      injection e with e
      omega)
theorem heap_alloc_old (w : World) (o : Obj) (k : Nat) (h : k < w.heap.size) : (w.alloc o).heap[k]? = w.heap[k]? := by
  show (w.heap.push o)[k]? = _
  rw [Array.getElem?_push_lt h, Array.getElem?_eq_getElem h]
theorem hasPrefix_any (s p : ByteArray) (w : World) : Calls Tryz.prog 123 #[.string s, .string p] w fun e w' => e = .returned (.bool (Lib.hasPrefix s.data.toList p.data.toList)) ∧ w = w' :=
  (Tryz.strings_HasPrefix s p w).mono fun _ _ h => ⟨h.1, h.2.symm⟩
theorem iter_pos {w : World} {k : Nat} {s : ByteArray} {p : Nat} (h : w.heap[k]? = some (.stringIter s p)) : w.iterPos k = p := by unfold World.iterPos; rw [h]
def PtsPost (s : ByteArray) (w : World) (e : Ending) (w' : World) : Prop := ∃ v, e = .returned (.tuple #[v, .int .i64 (textErr s)]) ∧ Below w.heap.size w w'
set_option maxHeartbeats 1000000 in
set_option maxRecDepth 10000 in
theorem points_any (s : ByteArray) (w : World) (hs : s.size ≤ 1000000000) : Calls Tryz.prog 72 #[.string s] w (PtsPost s w) := by
  by_cases h : 16384 < s.size
  · have h' : (16384 : Int) < (s.size : Int) := by omega
    have HX : Box (textErr s = 4) := ⟨by unfold textErr; rw [if_pos h]⟩
    go_enter Tryz.func72, Tryz.ntmps72
    go_wp2
    go_ret2
    exact ⟨_, by rw [HX.out]; rfl, Below.refl _ _⟩
  · have h' : ¬ (16384 : Int) < (s.size : Int) := by omega
    have HX : Box (textErr s = if textOK s then 0 else 50) := ⟨by unfold textErr; rw [if_neg h]⟩
    go_enter Tryz.func72, Tryz.ntmps72
    go_wp2
    go_loopw [2] (fun v wr => ∃ (i : Nat) (l : List Int), i ≤ s.size ∧ l.length ≤ i ∧ textAt s i = textOK s ∧ wr.ownsRow (w.heap.size + 1) 3 1 v l.length (ints .i64 l) ∧ wr.heap[w.heap.size]? = some (.stringIter s i) ∧ Below w.heap.size w wr) (fun _ wr => s.size - wr.iterPos w.heap.size)
    case atStart => exact ⟨0, [], Nat.zero_le _, Nat.le_refl _, rfl, World.ownsRow_nil _ _ _ _, World.iter_heap w s 0, (Below.refl _ w).alloc (Nat.le_refl _) _⟩
    case round =>
      obtain ⟨i, l, hi, hl, ht, hown, hit, hb⟩ := hrel
      obtain ⟨A, c, rfl⟩ := own_form hown
      by_cases hp : i < s.size
      · obtain ⟨W1, hW1⟩ : ∃ W1, W1 = wr.iterAt w.heap.size s (i + (Utf8.decode s i).2) := ⟨_, rfl⟩
        have hnx := fun ty => Lib.run_next_any_at (P := Tryz.prog) wr w.heap.size s i ty hit hp
        rw [← hW1] at hnx
        have ho1 : W1.ownsRow (w.heap.size + 1) 3 1 (.slice A l.length c) l.length (ints .i64 l) := by rw [hW1]; exact own_iter hown (by omega) _ _
        have hb1 : Below w.heap.size w W1 := by rw [hW1]; exact Lib.below_iterAt hb (Nat.le_refl _) _ _
        have hi1 : W1.heap[w.heap.size]? = some (.stringIter s (i + (Utf8.decode s i).2)) := by rw [hW1]; exact Lib.iterAt_heap _ _ _ _ _ hit
        have hsz : w.heap.size + 1 ≤ W1.heap.size := (Array.getElem?_eq_some_iff.1 hi1).1
        have HO := Lib.hid ho1
        have HB := Lib.hid hb1
        have HI := Lib.hid hi1
        have hd := dec_in s i hp
        have hdp := dec_pos s i
        have hrl : (Utf8.decode s i).1 ≤ 1114111 := Lib.rune_le s i
        have hM := fun W => may_any ((Utf8.decode s i).1 : Int) W (by omega) (by omega)
        have hf := fffd s i hp
        have ho : okAt s i = (mayP ((Utf8.decode s i).1 : Int) && !decide ((Utf8.decode s i).1 = 65533 ∧ (Utf8.decode s i).2 = 1)) := rfl
        have hpi : (i : Int) ≤ (s.size : Int) := by omega
        have HSS : Box (s.extract i s.size = s.extract i s.size) := ⟨rfl⟩
        have HP := Lib.hid (fun W => hasPrefix_any (s.extract i s.size) ⟨#[239, 191, 189]⟩ W)
        have hpe : (⟨#[239, 191, 189]⟩ : ByteArray).data.toList = [239, 191, 189] := rfl
        rw [hpe] at HP
        have hTY : okAt s i = true → textAt s (i + (Utf8.decode s i).2) = textOK s := fun h1 => by rw [← ht, textAt_yes s i hp h1]
        have hTN : okAt s i = false → textOK s = false := fun h1 => by rw [← ht, textAt_no s i hp h1]
        have HTY := Lib.hid hTY
        have HTN := Lib.hid hTN
        have HI0 := Lib.hid hit
        clear hW1 hown hb hit ht ho1 hb1 hi1 hTY hTN hpe
        generalize (Utf8.decode s i).1 = r at *
        generalize (Utf8.decode s i).2 = d at *
        by_cases h65 : r = 65533
        · subst h65
          rw [hf rfl] at HP
          have hm : mayP ((65533 : Nat) : Int) = true := by decide
          rw [hm] at hM ho
          have HM := Lib.hid hM
          clear hM hf hm
          by_cases hd1 : d = 1
          · subst hd1
            have HT := Box.mk (HTN.out (by rw [ho]; rfl))
            clear ho
            go_wp2_with fail
            refine (HP.out _).mono ?_
            rintro e w1 ⟨rfl, rfl⟩
            go_wp2
            try rw [Exit.noGoto_ret]
            go_ret2
            exact ⟨_, by rw [HX.out, HT.out]; rfl, HB.out⟩
          · have HT := Lib.hid (HTY.out (by rw [ho]; simpa using hd1))
            have hdd : decide (d ≠ 1) = true := by simpa using hd1
            rw [hdd] at HP
            clear ho hdd
            go_wp2_with fail
            refine (HP.out _).mono ?_
            rintro e w1 ⟨rfl, rfl⟩
            go_wp2_with fail
            refine (HM.out _).mono ?_
            rintro e w1 ⟨rfl, rfl⟩
            have ho2 := HO.out
            have hrn : Rd (W1.alloc (.cells #[.int .i64 65533] 3)) (W1.heap.size + 1) 1 (some ⟨W1.heap.size, 0, none⟩) 1 (ints .i64 [65533]) := rd_int1 W1 _ _ _
            go_wp2_with (at_builtin; refine app_i64s rfl _ _ rfl (w.heap.size + 1) _ l.length _ rfl (ho2.alloc _) _ _ _ _ _ rfl hrn (by omega) (by simp; omega) ?_)
            intro v' w2 hown2 hg _
            have X2 : Hid (Below w.heap.size w w2) := (HB.out.alloc (by omega) (.cells #[.int .i64 65533] 3)).grown hg (by simp; omega) (fun q hq => by have := (HO.out.lt q hq).1; omega)
            have I2 : Hid (w2.heap[w.heap.size]? = some (.stringIter s (i + d))) := (hg.block w.heap.size (by simp; omega) (fun e => by have := (HO.out.lt _ e.symm).1; omega)).trans ((heap_alloc_old W1 _ _ (by omega)).trans HI.out)
            have HO2 := Lib.hid hown2
            clear hown2 hg ho2 hrn
            go_wp2
            go_roundw
            case rel => exact ⟨i + d, l ++ [65533], hd, by simp; omega, HT.out, by simpa using HO2.out, I2.out, X2.out⟩
            case measure => rw [iter_pos I2.out, iter_pos HI0.out]; omega
        · have h65' : ((r : Int) == 65533) = false := by rw [beq_eq_false_iff_ne]; omega
          have ho' : okAt s i = mayP (r : Int) := by rw [ho]; simp [h65]
          clear HP hf ho
          cases hm : mayP (r : Int) with
          | false =>
            have HT := Box.mk (HTN.out (by rw [ho', hm]))
            rw [hm] at hM
            have HM := Lib.hid hM
            clear hM hm ho'
            go_wp2_with fail
            refine (HM.out _).mono ?_
            rintro e w1 ⟨rfl, rfl⟩
            go_wp2
            try rw [Exit.noGoto_ret]
            go_ret2
            exact ⟨_, by rw [HX.out, HT.out]; rfl, HB.out⟩
          | true =>
            have HT := Lib.hid (HTY.out (by rw [ho', hm]))
            rw [hm] at hM
            have HM := Lib.hid hM
            clear hM hm ho'
            go_wp2_with fail
            refine (HM.out _).mono ?_
            rintro e w1 ⟨rfl, rfl⟩
            have ho2 := HO.out
            have hrn : Rd (W1.alloc (.cells #[.int .i64 (r : Int)] 3)) (W1.heap.size + 1) 1 (some ⟨W1.heap.size, 0, none⟩) 1 (ints .i64 [(r : Int)]) := rd_int1 W1 _ _ _
            go_wp2_with (at_builtin; refine app_i64s rfl _ _ rfl (w.heap.size + 1) _ l.length _ rfl (ho2.alloc _) _ _ _ _ _ rfl hrn (by omega) (by simp; omega) ?_)
            intro v' w2 hown2 hg _
            have X2 : Hid (Below w.heap.size w w2) := (HB.out.alloc (by omega) (.cells #[.int .i64 (r : Int)] 3)).grown hg (by simp; omega) (fun q hq => by have := (HO.out.lt q hq).1; omega)
            have I2 : Hid (w2.heap[w.heap.size]? = some (.stringIter s (i + d))) := (hg.block w.heap.size (by simp; omega) (fun e => by have := (HO.out.lt _ e.symm).1; omega)).trans ((heap_alloc_old W1 _ _ (by omega)).trans HI.out)
            have HO2 := Lib.hid hown2
            clear hown2 hg ho2 hrn
            go_wp2
            go_roundw
            case rel => exact ⟨i + d, l ++ [(r : Int)], hd, by simp; omega, HT.out, by simpa using HO2.out, I2.out, X2.out⟩
            case measure => rw [iter_pos I2.out, iter_pos HI0.out]; omega
      · obtain rfl : i = s.size := by omega
        have hnx := fun ty => Lib.run_next_end_at (P := Tryz.prog) wr w.heap.size s s.size ty hit hp
        have HT : Box (textOK s = true) := ⟨by rw [← ht, textAt_end s s.size (Nat.le_refl _)]⟩
        have HB := Lib.hid hb
        clear hown hb hit ht
        go_wp2
        try rw [Exit.noGoto_ret]
        go_ret2
        exact ⟨_, by rw [HX.out, HT.out]; rfl, HB.out⟩
theorem check5_any (s : ByteArray) (w : World) (hs : s.size ≤ 1000000000) : Calls Tryz.prog 30 #[.string s] w fun e w' => e = .returned (.int .i64 (textErr s)) ∧ Below w.heap.size w w' := by
  have H := Lib.hid (points_any s w hs)
  go_enter Tryz.func30, Tryz.ntmps30
  go_wp2_with fail
  refine H.out.mono ?_
  rintro e w1 ⟨v, rfl, hb1⟩
  go_wp2
  go_ret
  exact ⟨rfl, hb1⟩
end Go.Proofs.YtnfokaecobddkaaGreatDoor
end
section
namespace Go.Proofs.YtnfokaecobddkaaGreatDoor
open Go.RowKit
set_option linter.unusedSimpArgs false
set_option linter.unusedVariables false
theorem or32_all : ∀ n : Fin 256, decide (97 ≤ bits .or .u8 (n.val : Int) 32 ∧ bits .or .u8 (n.val : Int) 32 ≤ 122) = decide ((97 ≤ (n.val : Int) ∧ (n.val : Int) ≤ 122) ∨ (65 ≤ (n.val : Int) ∧ (n.val : Int) ≤ 90)) := by decide +kernel
theorem or32 (c : Int) (h0 : 0 ≤ c) (h1 : c < 256) : (97 ≤ bits .or .u8 c 32 ∧ bits .or .u8 c 32 ≤ 122) ↔ ((97 ≤ c ∧ c ≤ 122) ∨ (65 ≤ c ∧ c ≤ 90)) := by
  have := or32_all ⟨c.toNat, by omega⟩
  have e : ((c.toNat : Nat) : Int) = c := by omega
  simp only [e] at this
  exact decide_eq_decide.1 this
theorem part_any (c : Int) (first : Bool) (w : World) (h0 : 0 ≤ c) (h1 : c < 256) : Calls Tryz.prog 65 #[.int .u8 c, .bool first] w fun e w' => e = .returned (.bool (partB c first)) ∧ w = w' := by
  have HB := Box.mk (or32 c h0 h1)
  cases first with
  | false =>
    have HX : Box (partB c false = decide (((97 ≤ c ∧ c ≤ 122) ∨ (65 ≤ c ∧ c ≤ 90) ∨ c = 95) ∨ ((48 ≤ c ∧ c ≤ 57) ∨ c = 46 ∨ c = 45))) := ⟨by unfold partB; first | rfl | decide | (rw [Bool.eq_iff_iff]; simp only [Bool.and_eq_true, Bool.or_eq_true, Bool.not_eq_true', Bool.not_eq_true, decide_eq_true_eq, decide_eq_false_iff_not, beq_iff_eq, bne_iff_ne, beq_eq_false_iff_ne, bne_eq_false_iff_eq, Bool.false_eq_true, ne_eq, true_and, and_true, false_or, or_false, reduceCtorEq, false_iff, true_iff, iff_false, iff_true]; omega) | (simp; done) | (simp; omega)⟩
    generalize partB c false = r at *
    go_enter Tryz.func65, Tryz.ntmps65
    go_wp2
    all_goals
      go_ret
      refine ⟨ret_bool ?_, rfl⟩
      have hb := HB.out
      rw [HX.out]
      generalize bits .or .u8 c 32 = d at *
      (first | rfl | decide | (rw [Bool.eq_iff_iff]; simp only [Bool.and_eq_true, Bool.or_eq_true, Bool.not_eq_true', Bool.not_eq_true, decide_eq_true_eq, decide_eq_false_iff_not, beq_iff_eq, bne_iff_ne, beq_eq_false_iff_ne, bne_eq_false_iff_eq, Bool.false_eq_true, ne_eq, true_and, and_true, false_or, or_false, reduceCtorEq, false_iff, true_iff, iff_false, iff_true]; omega) | (simp; done) | (simp; omega))
  | true =>
    have HX : Box (partB c true = decide ((97 ≤ c ∧ c ≤ 122) ∨ (65 ≤ c ∧ c ≤ 90) ∨ c = 95)) := ⟨by simp [partB]⟩
    generalize partB c true = r at *
    go_enter Tryz.func65, Tryz.ntmps65
    go_wp2
    all_goals
      go_ret
      refine ⟨ret_bool ?_, rfl⟩
      have hb := HB.out
      rw [HX.out]
      generalize bits .or .u8 c 32 = d at *
      (first | rfl | decide | (rw [Bool.eq_iff_iff]; simp only [Bool.and_eq_true, Bool.or_eq_true, Bool.not_eq_true', Bool.not_eq_true, decide_eq_true_eq, decide_eq_false_iff_not, beq_iff_eq, bne_iff_ne, beq_eq_false_iff_ne, bne_eq_false_iff_eq, Bool.false_eq_true, ne_eq, true_and, and_true, false_or, or_false, reduceCtorEq, false_iff, true_iff, iff_false, iff_true]; omega) | (simp; done) | (simp; omega))
end Go.Proofs.YtnfokaecobddkaaGreatDoor
end
section
namespace Go.Proofs.YtnfokaecobddkaaGreatDoor
open Go.RowKit
set_option linter.unusedSimpArgs false
set_option linter.unusedVariables false
def low1 (c : Int) : Int := if 65 ≤ c ∧ c ≤ 90 then c + 32 else c
def lowI (s : ByteArray) : ByteArray := strOfNums ((numsOf s).map low1)
def lowK (l : List Int) (k : Nat) : List Int := (l.take k).map low1 ++ l.drop k
theorem lowK_zero (l : List Int) : lowK l 0 = l := by simp [lowK]
theorem lowK_len (l : List Int) (k : Nat) : (lowK l k).length = l.length := by simp [lowK]; omega
theorem lowK_all (l : List Int) : lowK l l.length = l.map low1 := by simp [lowK]
theorem lowK_at {l : List Int} {k : Nat} {x : Int} (h : l[k]? = some x) : (lowK l k)[k]? = some x := by
  have hk := (List.getElem?_eq_some_iff.1 h).1
  unfold lowK
  rw [List.getElem?_append_right (by simp; omega)]
  simp [Nat.min_eq_left (Nat.le_of_lt hk), h]
theorem lowK_succ {l : List Int} {k : Nat} {x : Int} (h : l[k]? = some x) : lowK l (k + 1) = (lowK l k).set k (low1 x) := by
  have hk := (List.getElem?_eq_some_iff.1 h).1
  unfold lowK
  rw [List.set_append_right _ _ (by simp; omega), List.take_add_one, h]
  have e : l.drop k = x :: l.drop (k + 1) := by
    rw [List.drop_eq_getElem_cons hk]
    congr 1
    exact (List.getElem?_eq_some_iff.1 h).2
  rw [e]
  simp [Nat.min_eq_left (Nat.le_of_lt hk)]
theorem list_set_self {α : Type} {l : List α} {i : Nat} {x : α} (h : l[i]? = some x) : l.set i x = l := by
  apply List.ext_getElem?
  intro j
  by_cases hj : i = j
  · subst hj
    rw [List.getElem?_set_self (List.getElem?_eq_some_iff.1 h).1, h]
  · rw [List.getElem?_set_ne hj]
theorem low1_b8 {l : List Int} (h : B8 l) : B8 (l.map low1) := by
  intro x hx
  obtain ⟨c, hc, rfl⟩ := List.mem_map.1 hx
  have := h c hc
  unfold low1
  split <;> omega
theorem lowI_size (s : ByteArray) : (lowI s).size = s.size := by
  unfold lowI
  have h := numsOf_length (strOfNums ((numsOf s).map low1))
  rw [numsOf_str (low1_b8 (numsOf_b8 s)), List.length_map, numsOf_length] at h
  exact h.symm
theorem or32b_all : ∀ n : Fin 256, decide (65 ≤ n.val ∧ n.val ≤ 90) = true → bits .or .u8 (n.val : Int) 32 = (n.val : Int) + 32 := by decide +kernel
theorem or32b (c : Int) (h0 : 65 ≤ c) (h1 : c ≤ 90) : bits .or .u8 c 32 = c + 32 := by
  have := or32b_all ⟨c.toNat, by omega⟩ (decide_eq_true (by show 65 ≤ c.toNat ∧ c.toNat ≤ 90; omega))
  have e : ((c.toNat : Nat) : Int) = c := by omega
  simpa only [e] using this
def RowB (w : World) (g : Nat) (xs : List Int) : Prop := ∃ cur t f, w.heap[g]? = some (.cells cur t f) ∧ cur.size ≤ f.1 ∧ xs.length ≤ cur.size ∧ ∀ (i : Nat) (x : Int), xs[i]? = some x → cur[i]? = some (.int .u8 x)
theorem RowB.cell {w : World} {g i : Nat} {xs : List Int} {x : Int} (h : RowB w g xs) (hx : xs[i]? = some x) : w.cell? ⟨g, i, none⟩ = some (.int .u8 x) := by
  obtain ⟨cur, t, f, h1, h2, h3, h4⟩ := h
  simp [World.cell?, h1, h4 i x hx]
theorem RowB.frozen {w : World} {g i : Nat} {xs : List Int} (h : RowB w g xs) (hi : i < xs.length) : w.frozen? ⟨g, i, none⟩ = false := by
  obtain ⟨cur, t, ⟨f1, f2⟩, h1, h2, h3, h4⟩ := h
  simp only [] at h2
  simp [World.frozen?, h1]
  omega
theorem RowB.set {w : World} {g i : Nat} {xs : List Int} (h : RowB w g xs) (hi : i < xs.length) (y : Int) : RowB (w.setCell ⟨g, i, none⟩ (.int .u8 y)) g (xs.set i y) := by
  obtain ⟨cur, t, f, h1, h2, h3, h4⟩ := h
  have hs : (w.setCell ⟨g, i, none⟩ (.int .u8 y)).heap[g]? = some (.cells (cur.setIfInBounds i (.int .u8 y)) t f) := by
    simp [World.setCell, Array.getElem?_modify, h1]
  refine ⟨_, t, f, hs, by simpa using h2, by simpa using h3, fun k x hk => ?_⟩
  by_cases e : i = k
  · subst e
    rw [List.getElem?_set_self hi] at hk
    simp only [Option.some.injEq] at hk
    subst hk
    rw [Array.getElem?_setIfInBounds_self_of_lt (by omega)]
  · rw [List.getElem?_set_ne e] at hk
    rw [Array.getElem?_setIfInBounds_ne (by omega)]
    exact h4 k x hk
theorem RowB.conv {w : World} {g c : Nat} {xs : List Int} (h : RowB w g xs) : (convert 226 9 (.slice (some ⟨g, 0, none⟩) xs.length c)).run Tryz.prog w = .ok (.string (strOfNums xs)) w :=
  run_convert_bytes_arg w _ _ Tryz.underlying226 Tryz.underlying5 g 0 _ c xs rfl (fun i hi => by
    rw [Nat.zero_add]
    rw [h.cell (List.getElem?_eq_getElem hi), List.getD_eq_getElem?_getD, List.getElem?_eq_getElem hi]
    rfl) _ Tryz.underlying9
theorem row_of_string (w : World) (s : ByteArray) : ∃ c w', (convert 9 226 (.string s)).run Tryz.prog w = .ok (.slice (some ⟨w.heap.size, 0, none⟩) s.size c) w' ∧ RowB w' w.heap.size (numsOf s) ∧ Below w.heap.size w w' := by
  have h := run_bytes_of_string (P := Tryz.prog) w 9 226 5 s Tryz.underlying9 Tryz.underlying226 Tryz.underlying5
  generalize grownCap w s.size 0 5 = cp at h
  refine ⟨_, _, h, ⟨bytesRow s cp, 5, ((bytesRow s cp).size, (bytesRow s cp).size + 1), ?_, Nat.le_refl _, ?_, ?_⟩, (Below.refl _ _).drew.alloc (Nat.le_refl _) _⟩
  · show (w.heap.push _)[w.heap.size]? = _
    simp
  · rw [numsOf_length]
    simp [bytesRow]
  · intro i x hx
    have hi := (List.getElem?_eq_some_iff.1 hx).1
    rw [numsOf_length] at hi
    have hi' : i < s.data.size := hi
    rw [bytesRow_at s _ i hi']
    rw [numsOf_get s i hi] at hx
    simp only [Option.some.injEq] at hx
    rw [← hx]
    rfl
set_option maxHeartbeats 1000000 in
set_option maxRecDepth 10000 in
theorem lower9_any (s : ByteArray) (w : World) (hs : s.size ≤ 9223372036854775807) : Calls Tryz.prog 127 #[.string s] w fun e w' => e = .returned (.string (lowI s)) ∧ Below w.heap.size w w' := by
  obtain ⟨c, w1, hconv, hrow, hb⟩ := row_of_string w s
  have HROW := Lib.hid hrow
  have HB0 := Lib.hid hb
  have HX : Box (lowI s = strOfNums ((numsOf s).map low1)) := ⟨rfl⟩
  have HN := Lib.hid (numsOf_length s)
  have HB8 := Lib.hid (numsOf_b8 s)
  clear hrow hb
  generalize lowI s = r at *
  go_enter Tryz.func127, Tryz.ntmps127
  go_wp2
  go_loopw [4, 5, 10] (fun _ _ s10 wr => ∃ k : Nat, k ≤ s.size ∧ s10 = .int .i64 k ∧ Hid (RowB wr w.heap.size (lowK (numsOf s) k)) ∧ Hid (Below w.heap.size w wr)) (fun _ _ s10 _ => s.size - (intOf s10).toNat)
  case atStart => exact ⟨0, Nat.zero_le _, rfl, by rw [lowK_zero]; exact HROW, HB0⟩
  case round =>
    obtain ⟨k, hk, rfl, HR, HB⟩ := hrel
    by_cases hlt : k < s.size
    · obtain ⟨x, hx⟩ : ∃ x, (numsOf s)[k]? = some x := ⟨_, List.getElem?_eq_getElem (by rw [HN.out]; exact hlt)⟩
      have d0 := HR.out.cell (lowK_at hx)
      have hx8 := HB8.out x (List.mem_of_getElem? hx)
      obtain ⟨hx0, hx1⟩ := hx8
      have f0 := HR.out.frozen (i := k) (by rw [lowK_len, HN.out]; exact hlt)
      have HSU := Lib.hid (lowK_succ hx)
      have HSELF : Hid ((lowK (numsOf s) k).set k x = lowK (numsOf s) k) := list_set_self (lowK_at hx)
      clear hx
      by_cases hup : 65 ≤ x ∧ x ≤ 90
      · obtain ⟨hu1, hu2⟩ := hup
        have hor := or32b x hu1 hu2
        have HL : Box (low1 x = x + 32) := ⟨if_pos ⟨hu1, hu2⟩⟩
        have HSET : Hid (RowB (wr.setCell ⟨w.heap.size, k, none⟩ (.int .u8 (x + 32))) w.heap.size (lowK (numsOf s) (k + 1))) := by rw [HSU.out, HL.out]; exact HR.out.set (by rw [lowK_len, HN.out]; exact hlt) _
        have HB2 : Hid (Below w.heap.size w (wr.setCell ⟨w.heap.size, k, none⟩ (.int .u8 (x + 32)))) := HB.out.setCell (p := ⟨w.heap.size, k, none⟩) (Nat.le_refl _) _
        go_wp2
        go_roundw
        case rel => exact ⟨k + 1, by omega, by go_num, HSET, HB2⟩
        case measure => simp [intOf]; omega
      · have HL : Box (low1 x = x) := ⟨if_neg hup⟩
        have HSET : Hid (RowB wr w.heap.size (lowK (numsOf s) (k + 1))) := by
          rw [HSU.out, HL.out, HSELF.out]
          exact HR
        have hcase : x < 65 ∨ 90 < x := by omega
        clear hup
        rcases hcase with hc | hc
        all_goals
          go_wp2
          go_roundw
          case rel => exact ⟨k + 1, by omega, by go_num, HSET, HB⟩
          case measure => simp [intOf]; omega
    · obtain rfl : k = s.size := by omega
      have hcv := HR.out.conv (c := c)
      rw [lowK_len, HN.out] at hcv
      have HE : Box (strOfNums (lowK (numsOf s) s.size) = r) := ⟨by rw [HX.out, ← HN.out, lowK_all]⟩
      rw [HE.out] at hcv
      go_wp2
      go_ret
      exact ⟨rfl, HB.out⟩
end Go.Proofs.YtnfokaecobddkaaGreatDoor
end
section
namespace Go.Proofs.YtnfokaecobddkaaGreatDoor
open Go.RowKit
set_option linter.unusedSimpArgs false
set_option linter.unusedVariables false
set_option maxHeartbeats 1000000 in
set_option maxRecDepth 10000 in
theorem name_any (s : ByteArray) (w : World) (hs : s.size ≤ 1000000000) : Calls Tryz.prog 26 #[.string s] w fun e w' => e = .returned (.bool (nameI s)) ∧ w = w' := by
  rcases Nat.eq_zero_or_pos s.size with h0 | h0
  · have he := str_em s h0
    have HX : Box (nameI s = false) := ⟨by rw [nameI_all, h0]; rfl⟩
    have hl : (s.size : Int) = 0 := by omega
    generalize nameI s = r at *
    go_enter Tryz.func26, Tryz.ntmps26
    go_wp2
    go_step3
    go_wp2
    go_step3
    go_wp2
    go_loop [3, 9] (fun b i => b = .bool false ∧ i = .int .i64 0) (fun _ i => 0)
    case atStart => exact ⟨rfl, rfl⟩
    case round =>
      obtain ⟨rfl, rfl⟩ := hrel
      go_wp2
      go_ret
      exact ⟨ret_bool HX.out.symm, rfl⟩
  · have hne := str_ne s h0
    have HX : Box (nameI s = nameT s s.size) := ⟨by rw [nameI_all, decide_eq_true h0]; rfl⟩
    go_enter Tryz.func26, Tryz.ntmps26
    go_wp2
    go_step3
    go_wp2
    go_step3
    go_wp2
    go_loop [3, 9] (fun b i => ∃ k : Nat, k ≤ s.size ∧ b = .bool (nameT s k) ∧ nameT s k = true ∧ i = .int .i64 k) (fun _ i => s.size - (intOf i).toNat)
    case atStart => exact ⟨0, Nat.zero_le _, rfl, rfl, rfl⟩
    case round =>
      obtain ⟨k, hk, rfl, ht, rfl⟩ := hrel
      rw [ht]
      by_cases hlt : k < s.size
      · have HS : Box (nameT s (k + 1) = partB (b_at s k : Int) (decide (k = 0))) := ⟨by rw [nameT_succ, ht, nums_at s k hlt]; rfl⟩
        have HNO := Lib.hid (nameT_no s (k + 1) s.size hlt)
        have hxl : b_at s k < 256 := b_lt s k
        have hx := at_eq s k hlt
        have HP := Lib.hid (fun W => part_any (b_at s k : Int) (decide (k = 0)) W (by omega) (by omega))
        clear ht
        generalize b_at s k = x at *
        by_cases hk0 : k = 0
        · subst hk0
          rw [decide_eq_true (rfl : (0 : Nat) = 0)] at HS HP
          generalize hq : partB (x : Int) true = q at *
          clear hq
          cases q with
          | false =>
            go_wp2_with fail
            refine (HP.out _).mono ?_
            rintro e w1 ⟨rfl, rfl⟩
            go_wp2
            try rw [Exit.noGoto_ret]
            go_ret
            exact ⟨ret_bool (by rw [HX.out, HNO.out HS.out]), rfl⟩
          | true =>
            go_wp2_with fail
            refine (HP.out _).mono ?_
            rintro e w1 ⟨rfl, rfl⟩
            go_wp2
            go_round
            case rel => exact ⟨0 + 1, by omega, by rw [HS.out], HS.out, by go_num⟩
            case measure => simp [intOf]; omega
        · rw [decide_eq_false hk0] at HS HP
          have hk1 : ((k : Int) == 0) = false := by rw [beq_eq_false_iff_ne]; omega
          generalize hq : partB (x : Int) false = q at *
          clear hq hk0
          cases q with
          | false =>
            go_wp2_with fail
            refine (HP.out _).mono ?_
            rintro e w1 ⟨rfl, rfl⟩
            go_wp2
            try rw [Exit.noGoto_ret]
            go_ret
            exact ⟨ret_bool (by rw [HX.out, HNO.out HS.out]), rfl⟩
          | true =>
            go_wp2_with fail
            refine (HP.out _).mono ?_
            rintro e w1 ⟨rfl, rfl⟩
            go_wp2
            go_round
            case rel => exact ⟨k + 1, by omega, by rw [HS.out], HS.out, by go_num⟩
            case measure => simp [intOf]; omega
      · obtain rfl : k = s.size := by omega
        have HT := Box.mk ht
        clear ht
        go_wp2
        try rw [Exit.noGoto_ret]
        go_ret
        exact ⟨ret_bool (by rw [HX.out, HT.out]), rfl⟩
end Go.Proofs.YtnfokaecobddkaaGreatDoor
end
section
namespace Go.Proofs.YtnfokaecobddkaaGreatDoor
open Go.RowKit
set_option linter.unusedSimpArgs false
set_option linter.unusedVariables false
end Go.Proofs.YtnfokaecobddkaaGreatDoor
end
