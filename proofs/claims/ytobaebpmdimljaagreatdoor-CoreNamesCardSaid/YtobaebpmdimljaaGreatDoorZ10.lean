/- Part 10 of a proof laid in parts, one behind the other; no condition of its own. -/
import Derived.Test.YtobaebpmdimljaaGreatDoorZ09
import Derived.Laws.MakeOwn
import Derived.Laws.Small
import Derived.Laws.BytesString
import Derived.Laws.BytesArg
import Derived.Lib.MinMax
import Derived.Laws.RangeString
import Derived.MapKept
set_option linter.all false
section
namespace Go.Proofs.YtobaebpmdimljaaGreatDoor.Clo
open Go.RowKit
set_option linter.unusedVariables false
set_option linter.unusedSimpArgs false
noncomputable def madeA (z : AV) (m : Nat) : AV :=
  Nat.rec (motive := fun _ => AV) .nil (fun _ y => z.app y) m
theorem made_list (z : Array Value) : ∀ m, (madeCells z (m * z.size)).toList = (List.replicate m z.toList).flatten
  | 0 => by simp [madeCells]
  | m + 1 => by
    have ih := made_list z m
    rw [List.replicate_succ, List.flatten_cons, ← ih]
    unfold madeCells
    apply List.ext_getElem?
    intro j
    by_cases hz : z.size = 0
    · simp [hz]
    rw [Array.toList_map, Array.toList_map, List.getElem?_append]
    simp only [List.getElem?_map, Array.toList_range, Array.length_toList]
    have hp : 0 < z.size := Nat.pos_of_ne_zero hz
    have e : (m + 1) * z.size = m * z.size + z.size := by rw [Nat.add_mul, Nat.one_mul]
    split
    · rename_i hj
      rw [List.getElem?_range (by omega), Array.getElem?_toList, Array.getElem?_eq_getElem hj]
      simp [Nat.mod_eq_of_lt hj, hj]
    · rename_i hj
      by_cases hj2 : j < (m + 1) * z.size
      · rw [List.getElem?_range hj2, List.getElem?_range (by omega)]
        simp only [Option.map_some]
        rw [← Nat.mod_eq_sub_mod (by omega)]
      · rw [List.getElem?_eq_none (by simp; omega), List.getElem?_eq_none (by simp; omega)]
theorem madeA_ok {φ : Id → Option Plc} {z : AV} {l : List Value} (h : VL φ z l) : ∀ m, VL φ (madeA z m) (List.replicate m l).flatten
  | 0 => rfl
  | m + 1 => by
    rw [List.replicate_succ, List.flatten_cons]
    exact VL.app h (madeA_ok h m)
section
variable {P : Program} {G dt n : Nat} {ds : List (Option Nat)} {o : Oper}
theorem makeSlice_ok {t el : TypeId} {x y : Operand} {i : TypeInfo} {z : Value} {zc : AV} (ho : o.op = .makeSlice t x y) (hu : P.underlying t = some (.slice el)) (hi : P.info? el = some i) (hz : i.zero = some z) (hzs : z.cells.size = i.size) (hzc : (ofConst z).cellsO = some zc) :
    MakeOk P G dt n ds o (fun e t0 hp k => ((opd G dt n ds x).run e t0).on_i fun _ l => onNat l fun l => ((opd G dt n ds y).run e t0).on_i fun _ c => onNat c fun c => match Nat.ble l c with
      | false => none
      | true => match Nat.ble (Nat.mul i.bytes c) 281474976710656 with
        | false => none
        | true => match Nat.ble c 16777216 with
          | false => none
          | true => newF el (madeA zc c) hp fun r hp => k (.sl r 0 l (some c)) hp) := by
  intro e t0 hp k r hr
  obtain ⟨kl, l, hl, h1⟩ := AV.on_i_some hr
  obtain ⟨l, rfl, h2⟩ := onNat_some h1
  obtain ⟨kc, c, hc, h3⟩ := AV.on_i_some h2
  obtain ⟨c, rfl, h4⟩ := onNat_some h3
  split at h4
  · cases h4
  rename_i c1
  split at h4
  · cases h4
  rename_i c2
  split at h4
  · cases h4
  rename_i c3
  have c1' : l ≤ c := Nat.le_of_ble_eq_true c1
  have c2' : i.bytes * c ≤ 281474976710656 := Nat.le_of_ble_eq_true c2
  have c3' : c ≤ 16777216 := Nat.le_of_ble_eq_true c3
  obtain ⟨m, nx, e', hlast, h5⟩ := newF_some h4
  refine ⟨m, nx, _, _, e', hlast, rfl, h5, fun φ a w g1 hx => ?_⟩
  have e1 : a.eval x = .int kl (l : Int) := by have := (hx x (by rw [ho]; simp [Op.operands, Call.operands])); rw [hl] at this; exact this
  have e2 : a.eval y = .int kc (c : Int) := by have := (hx y (by rw [ho]; simp [Op.operands, Call.operands])); rw [hc] at this; exact this
  obtain ⟨h7, _⟩ := AV.cellsO_ok hzc (ofConst_ok φ z)
  have hrun := run_make (P := P) w t el i z hu hi hz kl kc l c (by omega) (by omega) (by have h := Int.ofNat_le.2 c2'; rw [Int.natCast_mul] at h; exact h) (by omega)
  rw [Int.toNat_natCast, Int.toNat_natCast] at hrun
  have hcs : VL φ (madeA zc c) (madeCells z.cells (c * i.size)).toList := by
    rw [← hzs, made_list]
    exact madeA_ok h7 c
  refine ⟨.slice (some ⟨w.heap.size, 0, none⟩) l c, _, _, _, ?_, .alloc _ _, row_says hcs, fun ψ _ hn => ⟨_, c, hn, rfl, c1', fun _ h => by cases h; rfl⟩⟩
  unfold execOp
  simp only [ho, e1, e2, Sem.run_bind, hrun, Result.andThen_ok]
  rfl
theorem cap_ok {t el : TypeId} {x : Operand} (ho : o.op = .call { callee := .builtin .cap, args := #[x], argTypes := #[t] }) (hu : P.underlying t = some (.slice el)) :
    PureOk P G dt n ds o (fun e t0 hp k => match (opd G dt n ds x).run e t0 with
      | .sn => k (.i .i64 0) hp
      | .sl _ _ _ (some c) => k (.i .i64 (Int.ofNat c)) hp
      | _ => none) :=
  .pure fun e t0 hp k r hr => by
    have key : ∃ c, k (.i .i64 (Int.ofNat c)) hp = some r ∧ ∀ φ v, VR φ ((opd G dt n ds x).run e t0) v → ∃ b m, v = .slice b m c := by
      split at hr
      · rename_i h
        exact ⟨0, hr, fun φ v hv => by rw [h] at hv; exact ⟨none, 0, hv⟩⟩
      · rename_i r' q m c h
        refine ⟨c, hr, fun φ v hv => ?_⟩
        rw [h] at hv
        obtain ⟨g, c', _, e, _, e'⟩ := hv
        exact ⟨_, _, by rw [e, e' c rfl]⟩
      · cases hr
    obtain ⟨c, h1, h2⟩ := key
    refine ⟨_, h1, fun φ a w hx => ⟨.int .i64 (c : Int), ?_, rfl⟩⟩
    obtain ⟨b, m, e1⟩ := h2 φ _ ((hx x (by rw [ho]; simp [Op.operands, Call.operands])))
    unfold execOp
    rw [ho]
    simp [resolve, invoke, builtin, Builtin.cap_, e1, run_underlying hu, goInt]
theorem convInt_ok {s t : TypeId} {x : Operand} {kd : IntKind} {d : TypeDesc} (ho : o.op = .convert s t x) (hs : P.underlying s = some d) (ht : P.underlying t = some (.int kd)) :
    PureOk P G dt n ds o (fun e t0 hp k => ((opd G dt n ds x).run e t0).on_i fun _ j => k (.i kd (kd.wrap j)) hp) :=
  .pure fun e t0 hp k r hr => by
    obtain ⟨k0, j, hj, h1⟩ := AV.on_i_some hr
    refine ⟨_, h1, fun φ a w hx => ⟨.int kd (kd.wrap j), ?_, rfl⟩⟩
    have e1 : a.eval x = .int k0 j := by have := (hx x (by rw [ho]; simp [Op.operands, Call.operands])); rw [hj] at this; exact this
    unfold execOp
    rw [ho]
    simp [convert, run_underlying hs, run_underlying ht, Conv.intToInt, e1]
end
end Go.Proofs.YtobaebpmdimljaaGreatDoor.Clo
end
section
namespace Go.Proofs.YtobaebpmdimljaaGreatDoor.Clo
open Go.RowKit
set_option linter.unusedVariables false
set_option linter.unusedSimpArgs false
noncomputable def bytesK (m : Nat) : AV → (List Nat → R) → R :=
  Nat.rec (motive := fun _ => AV → (List Nat → R) → R) (fun _ k => k []) (fun _ ih l k => match l with
    | .cons (.i .u8 j) r => onNat j fun b => match Nat.blt b 256 with
      | true => ih r fun y => k (b :: y)
      | false => none
    | _ => none) m
theorem bytesK_some : ∀ (m : Nat) {l : AV} {k : List Nat → R} {x : AV × HP}, bytesK m l k = some x → ∃ ns, k ns = some x ∧ ns.length = m ∧ B256 ns ∧ ∀ φ vs, VL φ l vs → vs.take m = ns.map (fun b : Nat => Value.int .u8 (b : Int))
  | 0, l, k, x, h => ⟨[], h, rfl, (fun _ h => by cases h), fun _ _ _ => by simp⟩
  | m + 1, l, k, x, h => by
    have h' : (match (generalizing := false) l with
      | .cons (.i .u8 j) r => onNat j fun b => match Nat.blt b 256 with
        | true => bytesK m r fun y => k (b :: y)
        | false => none
      | _ => none : R) = some x := h
    split at h'
    · rename_i j r
      obtain ⟨b, rfl, h1⟩ := onNat_some h'
      split at h1
      · rename_i hb
        have hb' : b < 256 := by simpa [Nat.blt_eq] using hb
        obtain ⟨ns, h2, h3, h4, h5⟩ := bytesK_some m h1
        refine ⟨b :: ns, h2, by rw [List.length_cons, h3], fun y hy => ?_, fun φ vs hv => ?_⟩
        · rcases List.mem_cons.1 hy with rfl | hy
          · exact hb'
          · exact h4 y hy
        · obtain ⟨v, vs', e, h6, h7⟩ := hv
          have e2 : v = .int .u8 (b : Int) := h6
          subst e e2
          rw [List.take_succ_cons, h5 φ vs' h7, List.map_cons]
      · cases h1
    · cases h'
noncomputable def textF (a : AV) (hp : HP) (k : List Nat → R) : R := match a with
  | .sn => k []
  | .sl r q m _ => hp.on fun mem _ => onRow mem r fun _ _ _ _ cells => bytesK m (cells.drop q) k
  | .sg r q m _ => hp.on fun mem _ => onRow mem r fun _ _ _ _ cells => bytesK m (cells.drop q) k
  | _ => none
theorem fold_bytes : ∀ (ns : List Nat) (s : ByteArray), (ns.map fun b : Nat => (b : Int)).foldl (fun r (n : Int) => r.push (UInt8.ofNat n.toNat)) s = s ++ bytesOf ns
  | [], s => by
    apply ByteArray.ext
    simp [bytesOf]
  | b :: ns, s => by
    rw [List.map_cons, List.foldl_cons, fold_bytes ns]
    apply ByteArray.ext
    simp [bytesOf, ByteArray.push]
section
variable {P : Program} {G dt n : Nat} {ds : List (Option Nat)} {o : Oper}
theorem textF_some {a : AV} {hp : HP} {k : List Nat → R} {x : AV × HP} (h : textF a hp k = some x) : ∃ ns, k ns = some x ∧ B256 ns ∧ ∀ φ w s, RH φ hp w → VR φ a s → ∃ (ad : Option Addr) (m c : Nat), s = .slice ad m c ∧ (∀ b, ad = some b → (loadCells b m).run P w = .ok (ns.map (fun b : Nat => Value.int .u8 (b : Int))).toArray w) ∧ (ad = none → ns = []) := by
  have row : ∀ r q m, (hp.on fun mem _ => onRow mem r fun _ _ _ _ cells => bytesK m (cells.drop q) k : R) = some x → ∃ ns, k ns = some x ∧ B256 ns ∧ ∀ φ w (g : Plc), RH φ hp w → φ r = some g → (loadCells ⟨g.1, q, none⟩ m).run P w = .ok (ns.map (fun b : Nat => Value.int .u8 (b : Int))).toArray w := by
    intro r q m hh
    cases hp with
    | mk mem nx =>
    obtain ⟨t, gr, fz, ro, cells, hm, h2⟩ := onRow_some (show onRow mem r _ = some x from hh)
    obtain ⟨ns, h3, h4, h5, h6⟩ := bytesK_some m h2
    refine ⟨ns, h3, h5, fun φ w g hw hg => ?_⟩
    obtain ⟨ca, l, rest, mk, e1, e2, e3, _⟩ := RW.row hw hm hg
    have e4 := h6 φ _ (VL.drop q e3)
    rw [← e4]
    have hlen : ((l.drop q).take m).length = m := by rw [e4, List.length_map, h4]
    have := run_loadCells_list (P := P) (w := w) ⟨g.1, q, none⟩ ((l.drop q).take m) (fun j v hv => by
      rw [add_lit]
      refine cell_row e1 e2 ?_
      rw [List.getElem?_take] at hv
      split at hv
      · rw [List.getElem?_drop] at hv; exact hv
      · cases hv)
    rw [hlen] at this
    exact this
  unfold textF at h
  split at h
  · exact ⟨[], h, (fun _ h => by cases h), fun φ w s _ hs => ⟨none, 0, 0, hs, (fun _ h => by cases h), fun _ => rfl⟩⟩
  · rename_i r q m c
    obtain ⟨ns, h1, h2, h3⟩ := row r q m h
    refine ⟨ns, h1, h2, fun φ w s hw ⟨g, c', e1, e2, _⟩ => ⟨_, _, _, e2, fun b hb => ?_, fun h => by cases h⟩⟩
    cases hb
    exact h3 φ w g hw e1
  · rename_i r q m c
    obtain ⟨ns, h1, h2, h3⟩ := row r q m h
    refine ⟨ns, h1, h2, fun φ w s hw ⟨g, c', e1, e2, _⟩ => ⟨_, _, _, e2, fun b hb => ?_, fun h => by cases h⟩⟩
    cases hb
    exact h3 φ w g hw e1
  · cases h
theorem convText_ok {s t el : TypeId} {x : Operand} (ho : o.op = .convert s t x) (hs : P.underlying s = some (.slice el)) (he : P.underlying el = some (.int .u8)) (ht : P.underlying t = some .string) :
    StillOk P G dt n ds o (fun e t0 hp k => textF ((opd G dt n ds x).run e t0) hp fun ns => k (.s ns) hp) :=
  fun e t0 hp k r hr => by
    obtain ⟨ns, h1, h2, h3⟩ := textF_some (P := P) hr
    refine ⟨_, h1, fun φ a w _ hx hw => ⟨.string (bytesOf ns), ?_, rfl, h2⟩⟩
    obtain ⟨ad, m, c, e1, e2, e3⟩ := h3 φ w _ hw ((hx x (by rw [ho]; simp [Op.operands, Call.operands])))
    have hrun : (convert s t (.slice ad m c)).run P w = .ok (.string (bytesOf ns)) w := by
      rw [run_convert_bytes_string w s t el ad m c hs he ht]
      cases ad with
      | none =>
        have := e3 rfl
        subst this
        rfl
      | some b =>
        have hl := e2 b rfl
        have := run_bytesToString (P := P) w b m c (ns.map fun b : Nat => (b : Int)) (by rw [hl, List.map_map]; rfl)
        rw [this, fold_bytes]
        congr 2
    unfold execOp
    simp only [ho, e1, Sem.run_bind, hrun, Result.andThen_ok]
    rfl
end
end Go.Proofs.YtobaebpmdimljaaGreatDoor.Clo
end
section
namespace Go.Proofs.YtobaebpmdimljaaGreatDoor.Clo
open Go.RowKit
set_option linter.unusedVariables false
set_option linter.unusedSimpArgs false
noncomputable def overF (r : Id) (q len : Nat) (y : AV) (hp : HP) (k : HP → R) : R :=
  hp.on fun mem nx => onRow mem r fun t gr fz ro cells => match ro with
    | true => none
    | false => match okF fz q with
      | false => none
      | true => match Nat.ble (Nat.add q len) cells.len with
        | false => none
        | true => k (.mk (mem.set r (.row t gr fz false (y.setMany q cells))) nx)
noncomputable def copyN (size : Nat) (r : Id) (q : Nat) (n : Nat) (y : AV) (hp : HP) (k : KV) : R :=
  overF r q (Nat.mul n size) y hp fun hp => k (.i .i64 (Int.ofNat n)) hp
noncomputable def copyF (size : Nat) (d s : AV) (hp : HP) (k : KV) : R := anySl d fun r q m => match s with
  | .sl r2 q2 m2 _ => rowF size r2 q2 (bif Nat.ble m2 m then m2 else m) hp fun n y => copyN size r q n y hp k
  | .sg r2 q2 m2 _ => rowF size r2 q2 (bif Nat.ble m2 m then m2 else m) hp fun n y => copyN size r q n y hp k
  | .s l => match Nat.beq size 1 with
    | false => none
    | true => match Nat.ble (lenL l) m with
      | false => none
      | true => copyN size r q (lenL l) (bytesA l) hp k
  | .sn => copyN size r q 0 .nil hp k
  | _ => none
section
variable {P : Program} {G dt n : Nat} {ds : List (Option Nat)} {o : Oper}
theorem overF_some {r : Id} {q len : Nat} {y : AV} {hp : HP} {k : HP → R} {x : AV × HP} (h : overF r q len y hp k = some x) : ∃ hp', k hp' = some x ∧ ∀ {sts : List Site} φ (B : Bse sts) w (g : Plc) (vs : List Value), WH φ B hp w → φ r = some g → VL φ y vs → vs.length = len → (∀ v ∈ vs, v.oneCell' = true) →
    ∃ w', (storeCells ⟨g.1, q, none⟩ vs).run P w = .ok () w' ∧ StH φ hp w φ hp' w' ∧ WH φ B hp' w' := by
  cases hp with
  | mk mem nx =>
  obtain ⟨t1, gr, fz, ro, cells, hm, h2⟩ := onRow_some (show onRow mem r _ = some x from h)
  cases ro with
  | true => cases h2
  | false =>
  simp only at h2
  split at h2
  · cases h2
  rename_i hfz
  split at h2
  · cases h2
  rename_i hln
  have hfz' : okF fz q = true := hfz
  have hln' : q + len ≤ cells.len := Nat.le_of_ble_eq_true hln
  refine ⟨_, h2, fun φ B w g vs hw hg hy hl h1 => ?_⟩
  obtain ⟨s1, s2, s3⟩ := WR.store (P := P) hw hm hg hy (o := q) (by omega) hfz' h1
  exact ⟨_, s1, s3, s2⟩
theorem rowF_some (P : Program) {size : Nat} {r : Id} {q m : Nat} {hp : HP} {k : Nat → AV → R} {x : AV × HP} (hh : rowF size r q m hp k = some x) : ∃ y, k m y = some x ∧ ∀ {sts : List Site} φ (B : Bse sts) w (g : Plc), WH φ B hp w → φ r = some g →
    ∃ vs : List Value, VL φ y vs ∧ vs.length = m * size ∧ (∀ j v, vs[j]? = some v → w.cell? ((⟨g.1, q, none⟩ : Addr).add j) = some v) ∧ ∀ u ∈ vs, u.oneCell' = true := by
  cases hp with
  | mk mem nx =>
  obtain ⟨t, gr, fz, ro, cells, hm, h2⟩ := onRow_some (show onRow mem r _ = some x from hh)
  cases ht : (cells.drop q).takeO (Nat.mul m size) with
  | none => simp only [ht] at h2; cases h2
  | some y =>
    simp only [ht] at h2
    split at h2
    · rename_i ho
      refine ⟨y, h2, fun φ B w g hw hg => ?_⟩
      obtain ⟨vs, e1, e2, e3⟩ := seg_ok P hw hm hg ht
      exact ⟨vs, e1, e2, e3, AV.allOne_ok ho e1⟩
    · cases h2
theorem copyN_ok {dT sT ty el : TypeId} {i : TypeInfo} (hu : P.underlying dT = some (.slice el)) (hi : P.info? el = some i) {r : Id} {q nn : Nat} {y : AV} {hp : HP} {k : KV} {x : AV × HP} (h : copyN i.size r q nn y hp k = some x) :
    ∃ v hp', k v hp' = some x ∧ ∀ {sts : List Site} φ (B : Bse sts) w (g : Plc) (m c ls : Nat) (src : Value) (vs : List Value), WH φ B hp w → φ r = some g → VL φ y vs → vs.length = nn * i.size → (∀ v ∈ vs, v.oneCell' = true) → (Builtin.lenOf src).run P w = .ok ls w → Nat.min ls m = nn → (Builtin.firstCells i.size nn src).run P w = .ok vs.toArray w →
      ∃ v' w', (Builtin.copy_ #[dT, sT] ty #[.slice (some ⟨g.1, q, none⟩) m c, src]).run P w = .ok v' w' ∧ VR φ v v' ∧ StH φ hp w φ hp' w' ∧ WH φ B hp' w' := by
  obtain ⟨hp', h1, h2⟩ := overF_some (P := P) h
  refine ⟨_, hp', h1, fun φ B w g m c ls src vs hw hg hy hl ho hls hmin hf => ?_⟩
  obtain ⟨w', e1, e2, e3⟩ := h2 φ B w g vs hw hg hy hl ho
  refine ⟨.int .i64 (nn : Int), w', ?_, rfl, e2, e3⟩
  simp [Builtin.copy_, run_underlying hu, hls, hmin, sizeOf, typeInfo, hi, hf, e1, goInt]
theorem copy_ok {s x : Operand} {dT sT el : TypeId} {i : TypeInfo} (ho : o.op = .call { callee := .builtin .copy, args := #[x, s], argTypes := #[dT, sT] }) (hu : P.underlying dT = some (.slice el)) (hi : P.info? el = some i) :
    ValOk P G dt n ds o (fun E t0 hp k => copyF i.size ((opd G dt n ds x).run E t0) ((opd G dt n ds s).run E t0) hp k) := by
  intro E t0 hp k rr hr
  obtain ⟨r, q, m, h1, hd⟩ := anySl_some hr
  have fin : ∀ (v : AV) (hp' : HP), k v hp' = some rr → (∀ {sts : List Site} φ (B : Bse sts) w (g : Plc) (c : Nat) (src : Value), WH φ B hp w → φ r = some g → VR φ ((opd G dt n ds s).run E t0) src →
      ∃ v' w', (Builtin.copy_ #[dT, sT] o.type #[.slice (some ⟨g.1, q, none⟩) m c, src]).run P w = .ok v' w' ∧ VR φ v v' ∧ StH φ hp w φ hp' w' ∧ WH φ B hp' w') →
      ∃ v hp', k v hp' = some rr ∧ ∀ {sts : List Site} φ (B : Bse sts) (a : Act) w, Glo G φ → OpsR G dt n ds φ E t0 a.eval o.op → WH φ B hp w →
        ∃ ψ v' w', ((execOp a.eval o).run P w = .ok (.value v') w' ∨ ((execOp a.eval o).run P w = .ok .skip w' ∧ v' = undef)) ∧ VR ψ v v' ∧ StH φ hp w ψ hp' w' ∧ WH ψ B hp' w' := by
    intro v hp' hk hall
    refine ⟨v, hp', hk, fun φ B a w g1 hx hw => ?_⟩
    obtain ⟨g, c, hg, e1, _⟩ := hd φ _ ((hx x (by rw [ho]; simp [Op.operands, Call.operands])))
    obtain ⟨v', w', e2, e3, e4, e5⟩ := hall φ B w g c (a.eval s) hw hg ((hx s (by rw [ho]; simp [Op.operands, Call.operands])))
    refine ⟨φ, v', w', .inl ?_, e3, e4, e5⟩
    unfold execOp
    simp only [ho, resolve, invoke, builtin, Sem.run_bind, Sem.run_pure, Result.andThen_ok, List.map_toArray, List.map_cons, List.map_nil, e1, e2]
  have mins : ∀ a b : Nat, Nat.min a b = (bif Nat.ble a b then a else b) := fun a b => by
    cases h : Nat.ble a b with
    | true => exact Nat.min_eq_left (Nat.le_of_ble_eq_true h)
    | false => exact Nat.min_eq_right (Nat.le_of_lt (Nat.lt_of_not_le fun hle => by have := Nat.ble_eq_true_of_le hle; rw [h] at this; cases this))
  split at h1
  · rename_i r2 q2 m2 c2 hs
    obtain ⟨y, h2, h3⟩ := rowF_some P h1
    obtain ⟨v, hp', h4, h5⟩ := copyN_ok (P := P) (sT := sT) (ty := o.type) hu hi h2
    refine fin v hp' h4 fun φ B w g c src hw hg hsrc => ?_
    rw [hs] at hsrc
    obtain ⟨g2, c', e1, e2, _⟩ := hsrc
    subst e2
    obtain ⟨vs, f1, f2, f3, f4⟩ := h3 φ B w g2 hw e1
    exact h5 φ B w g m c m2 _ vs hw hg f1 f2 f4 rfl (mins _ _) (run_firstCells_some w i.size _ _ m2 c' vs f2 f3)
  · rename_i r2 q2 m2 c2 hs
    obtain ⟨y, h2, h3⟩ := rowF_some P h1
    obtain ⟨v, hp', h4, h5⟩ := copyN_ok (P := P) (sT := sT) (ty := o.type) hu hi h2
    refine fin v hp' h4 fun φ B w g c src hw hg hsrc => ?_
    rw [hs] at hsrc
    obtain ⟨g2, c', e1, e2, _⟩ := hsrc
    subst e2
    obtain ⟨vs, f1, f2, f3, f4⟩ := h3 φ B w g2 hw e1
    exact h5 φ B w g m c m2 _ vs hw hg f1 f2 f4 rfl (mins _ _) (run_firstCells_some w i.size _ _ m2 c' vs f2 f3)
  · rename_i l hs
    split at h1
    · cases h1
    rename_i hsz
    split at h1
    · cases h1
    rename_i hle
    have hsz' : i.size = 1 := Nat.eq_of_beq_eq_true hsz
    have hle' : lenL l ≤ m := Nat.le_of_ble_eq_true hle
    obtain ⟨v, hp', h4, h5⟩ := copyN_ok (P := P) (sT := sT) (ty := o.type) hu hi h1
    refine fin v hp' h4 fun φ B w g c src hw hg hsrc => ?_
    rw [hs] at hsrc
    obtain ⟨e1, b1⟩ := hsrc
    subst e1
    have hz : (bytesOf l).size = lenL l := by rw [bytes_size, lenL_eq]
    refine h5 φ B w g m c (lenL l) _ (byteCells (bytesOf l)) hw hg (bytesA_ok b1) (by rw [byteCells_length, hz, hsz', Nat.mul_one]) (fun u hu => ?_) (by rw [← hz]; rfl) (Nat.min_eq_left hle') (by rw [hsz', ← hz]; exact firstCells_string _ w)
    obtain ⟨_, _, rfl⟩ := List.mem_map.1 hu
    rfl
  · rename_i hs
    obtain ⟨v, hp', h4, h5⟩ := copyN_ok (P := P) (sT := sT) (ty := o.type) hu hi h1
    refine fin v hp' h4 fun φ B w g c src hw hg hsrc => ?_
    rw [hs] at hsrc
    have e1 : src = .slice none 0 0 := hsrc
    subst e1
    exact h5 φ B w g m c 0 _ [] hw hg rfl (by simp) (fun u hu => by cases hu) rfl (Nat.zero_min m) (by simp [Builtin.firstCells])
  · cases h1
noncomputable def clearN (size : Nat) (z : AV) (r : Id) (q m : Nat) (hp : HP) (k : KV) : R := match Nat.beq m 0 with
  | true => k (.tu .nil) hp
  | false => match (madeA z m).allOne with
    | true => overF r q (Nat.mul m size) (madeA z m) hp fun hp => k (.tu .nil) hp
    | false => none
noncomputable def clearF (size : Nat) (z a : AV) (hp : HP) (k : KV) : R := match a with
  | .sn => k (.tu .nil) hp
  | .se _ => k (.tu .nil) hp
  | .sl r q m _ => clearN size z r q m hp k
  | .sg r q m _ => clearN size z r q m hp k
  | _ => none
theorem zero_made (z : Array Value) (n : Nat) : (Builtin.zeroCells z n).toList = (List.replicate n z.toList).flatten := by
  rw [← made_list]
  rfl
theorem clear_ok {x : Operand} {t el : TypeId} {i : TypeInfo} {z : Value} {zc : AV} (ho : o.op = .call { callee := .builtin .clear, args := #[x], argTypes := #[t] }) (hu : P.underlying t = some (.slice el)) (hi : P.info? el = some i) (hz : i.zero = some z) (hzs : z.cells.size = i.size) (hzc : (ofConst z).cellsO = some zc) :
    ValOk P G dt n ds o (fun E t0 hp k => clearF i.size zc ((opd G dt n ds x).run E t0) hp k) := by
  intro E t0 hp k rr hr
  have fin : ∀ (hp' : HP), k (.tu .nil) hp' = some rr → (∀ {sts : List Site} φ (B : Bse sts) w (s : Value), WH φ B hp w → VR φ ((opd G dt n ds x).run E t0) s →
      ∃ w', (Builtin.clear_ #[t] o.type #[s]).run P w = .ok (.tuple #[]) w' ∧ StH φ hp w φ hp' w' ∧ WH φ B hp' w') →
      ∃ v hp', k v hp' = some rr ∧ ∀ {sts : List Site} φ (B : Bse sts) (a : Act) w, Glo G φ → OpsR G dt n ds φ E t0 a.eval o.op → WH φ B hp w →
        ∃ ψ v' w', ((execOp a.eval o).run P w = .ok (.value v') w' ∨ ((execOp a.eval o).run P w = .ok .skip w' ∧ v' = undef)) ∧ VR ψ v v' ∧ StH φ hp w ψ hp' w' ∧ WH ψ B hp' w' := by
    intro hp' hk hall
    refine ⟨_, hp', hk, fun φ B a w g1 hx hw => ?_⟩
    obtain ⟨w', e2, e4, e5⟩ := hall φ B w (a.eval x) hw (hx x (by rw [ho]; simp [Op.operands, Call.operands]))
    refine ⟨φ, .tuple #[], w', .inl ?_, ⟨#[], rfl, rfl⟩, e4, e5⟩
    unfold execOp
    simp only [ho, resolve, invoke, builtin, Sem.run_bind, Sem.run_pure, Result.andThen_ok, List.map_toArray, List.map_cons, List.map_nil, e2]
  have none' : ∀ (ad : Option Addr) (c : Nat) w, (Builtin.clear_ #[t] o.type #[.slice ad 0 c]).run P w = .ok (.tuple #[]) w := fun ad c w => by
    cases ad <;> simp [Builtin.clear_, run_underlying hu]
  have row : ∀ r q m, clearN i.size zc r q m hp k = some rr → ∃ hp', k (.tu .nil) hp' = some rr ∧ ∀ {sts : List Site} φ (B : Bse sts) w (g : Plc) c, WH φ B hp w → φ r = some g →
      ∃ w', (Builtin.clear_ #[t] o.type #[.slice (some ⟨g.1, q, none⟩) m c]).run P w = .ok (.tuple #[]) w' ∧ StH φ hp w φ hp' w' ∧ WH φ B hp' w' := by
    intro r q m hh
    unfold clearN at hh
    split at hh
    · rename_i hm
      have hm' := Nat.eq_of_beq_eq_true hm
      subst hm'
      exact ⟨hp, hh, fun φ B w g c hw hg => ⟨w, none' _ _ _, Step.refl, hw⟩⟩
    · rename_i hm
      split at hh
      · rename_i hone
        obtain ⟨hp', h1, h2⟩ := overF_some (P := P) hh
        refine ⟨hp', h1, fun φ B w g c hw hg => ?_⟩
        obtain ⟨h7, _⟩ := AV.cellsO_ok hzc (ofConst_ok φ z)
        have hcs : VL φ (madeA zc m) (Builtin.zeroCells z.cells m).toList := by rw [zero_made]; exact madeA_ok h7 m
        obtain ⟨w', e1, e2, e3⟩ := h2 φ B w g _ hw hg hcs (by rw [Array.length_toList, size_zeroCells, hzs]; rfl) (AV.allOne_ok hone hcs)
        refine ⟨w', ?_, e2, e3⟩
        have hm0 : m ≠ 0 := fun e => by subst e; cases hm
        obtain ⟨m', rfl⟩ := Nat.exists_eq_succ_of_ne_zero hm0
        simp [Builtin.clear_, run_underlying hu, zeroValue, typeInfo, program, Sem.run, hi, hz, e1]
      · cases hh
  have hr : clearF i.size zc ((opd G dt n ds x).run E t0) hp k = some rr := hr
  unfold clearF at hr
  split at hr
  · rename_i hs
    exact fin hp hr fun φ B w s hw hv => by
      rw [hs] at hv
      have hv' : s = .slice none 0 0 := hv
      subst hv'
      exact ⟨w, none' _ _ _, Step.refl, hw⟩
  · rename_i r hs
    exact fin hp hr fun φ B w s hw hv => by
      rw [hs] at hv
      obtain ⟨g, o', c, _, rfl⟩ := hv
      exact ⟨w, none' _ _ _, Step.refl, hw⟩
  · rename_i r q m c hs
    obtain ⟨hp', h1, h2⟩ := row r q m hr
    exact fin hp' h1 fun φ B w s hw hv => by
      rw [hs] at hv
      obtain ⟨g, c', hg, rfl, _⟩ := hv
      exact h2 φ B w g c' hw hg
  · rename_i r q m c hs
    obtain ⟨hp', h1, h2⟩ := row r q m hr
    exact fin hp' h1 fun φ B w s hw hv => by
      rw [hs] at hv
      obtain ⟨g, c', hg, rfl, _⟩ := hv
      exact h2 φ B w g c' hw hg
  · cases hr
end
end Go.Proofs.YtobaebpmdimljaaGreatDoor.Clo
end
section
namespace Go.Proofs.YtobaebpmdimljaaGreatDoor.Clo
open Go.RowKit
set_option linter.unusedVariables false
set_option linter.unusedSimpArgs false
section
variable {P : Program} {G dt n : Nat} {ds : List (Option Nat)} {o : Oper}
theorem min_ok {x y : Operand} {ts : Array TypeId} (ho : o.op = .call { callee := .builtin .min, args := #[x, y], argTypes := ts }) :
    PureOk P G dt n ds o (fun e t0 hp k => ((opd G dt n ds x).run e t0).on_i fun kd i => ((opd G dt n ds y).run e t0).on_i fun _ j => match decide (j < i) with
      | true => k (.i kd j) hp
      | false => k (.i kd i) hp) :=
  .pure fun e t0 hp k r hr => by
    obtain ⟨kd, i, hi, h1⟩ := AV.on_i_some hr
    obtain ⟨kd', j, hj, h2⟩ := AV.on_i_some h1
    have key : k (.i kd (if j < i then j else i)) hp = some r := by
      split at h2
      · rename_i h; rw [if_pos (of_decide_eq_true h)]; exact h2
      · rename_i h; rw [if_neg (of_decide_eq_false h)]; exact h2
    refine ⟨_, key, fun φ a w hx => ⟨_, ?_, rfl⟩⟩
    have e1 : a.eval x = .int kd i := by have := (hx x (by rw [ho]; simp [Op.operands, Call.operands])); rw [hi] at this; exact this
    have e2 : a.eval y = .int kd' j := by have := (hx y (by rw [ho]; simp [Op.operands, Call.operands])); rw [hj] at this; exact this
    unfold execOp
    simp only [ho, resolve, invoke, builtin, Sem.run_bind, Sem.run_pure, Result.andThen_ok, List.map_toArray, List.map_cons, List.map_nil, e1, e2, run_min_int2]
theorem max_ok {x y : Operand} {ts : Array TypeId} (ho : o.op = .call { callee := .builtin .max, args := #[x, y], argTypes := ts }) :
    PureOk P G dt n ds o (fun e t0 hp k => ((opd G dt n ds x).run e t0).on_i fun kd i => ((opd G dt n ds y).run e t0).on_i fun _ j => match decide (j > i) with
      | true => k (.i kd j) hp
      | false => k (.i kd i) hp) :=
  .pure fun e t0 hp k r hr => by
    obtain ⟨kd, i, hi, h1⟩ := AV.on_i_some hr
    obtain ⟨kd', j, hj, h2⟩ := AV.on_i_some h1
    have key : k (.i kd (if j > i then j else i)) hp = some r := by
      split at h2
      · rename_i h; rw [if_pos (of_decide_eq_true h)]; exact h2
      · rename_i h; rw [if_neg (of_decide_eq_false h)]; exact h2
    refine ⟨_, key, fun φ a w hx => ⟨_, ?_, rfl⟩⟩
    have e1 : a.eval x = .int kd i := by have := (hx x (by rw [ho]; simp [Op.operands, Call.operands])); rw [hi] at this; exact this
    have e2 : a.eval y = .int kd' j := by have := (hx y (by rw [ho]; simp [Op.operands, Call.operands])); rw [hj] at this; exact this
    unfold execOp
    simp only [ho, resolve, invoke, builtin, Sem.run_bind, Sem.run_pure, Result.andThen_ok, List.map_toArray, List.map_cons, List.map_nil, e1, e2, run_max_int2]
theorem min3_ok {x y z : Operand} {ts : Array TypeId} (ho : o.op = .call { callee := .builtin .min, args := #[x, y, z], argTypes := ts }) :
    PureOk P G dt n ds o (fun e t0 hp k => ((opd G dt n ds x).run e t0).on_i fun kd i => ((opd G dt n ds y).run e t0).on_i fun _ j => ((opd G dt n ds z).run e t0).on_i fun _ l => match decide (j < i) with
      | true => (match decide (l < j) with
        | true => k (.i kd l) hp
        | false => k (.i kd j) hp)
      | false => (match decide (l < i) with
        | true => k (.i kd l) hp
        | false => k (.i kd i) hp)) :=
  .pure fun e t0 hp k r hr => by
    obtain ⟨kd, i, hi, h1⟩ := AV.on_i_some hr
    obtain ⟨kd', j, hj, h2⟩ := AV.on_i_some h1
    obtain ⟨kd2, l, hl, h3⟩ := AV.on_i_some h2
    have key : k (.i kd (if l < (if j < i then j else i) then l else (if j < i then j else i))) hp = some r := by
      split at h3
      · rename_i h
        rw [if_pos (of_decide_eq_true h)]
        split at h3
        · rename_i h; rw [if_pos (of_decide_eq_true h)]; exact h3
        · rename_i h; rw [if_neg (of_decide_eq_false h)]; exact h3
      · rename_i h
        rw [if_neg (of_decide_eq_false h)]
        split at h3
        · rename_i h; rw [if_pos (of_decide_eq_true h)]; exact h3
        · rename_i h; rw [if_neg (of_decide_eq_false h)]; exact h3
    refine ⟨_, key, fun φ a w hx => ⟨_, ?_, rfl⟩⟩
    have e1 : a.eval x = .int kd i := by have := (hx x (by rw [ho]; simp [Op.operands, Call.operands])); rw [hi] at this; exact this
    have e2 : a.eval y = .int kd' j := by have := (hx y (by rw [ho]; simp [Op.operands, Call.operands])); rw [hj] at this; exact this
    have e3 : a.eval z = .int kd2 l := by have := (hx z (by rw [ho]; simp [Op.operands, Call.operands])); rw [hl] at this; exact this
    unfold execOp
    simp only [ho, resolve, invoke, builtin, Sem.run_bind, Sem.run_pure, Result.andThen_ok, List.map_toArray, List.map_cons, List.map_nil, e1, e2, e3]
    simp [Builtin.min_, Builtin.min2, Result.andThen]
theorem max3_ok {x y z : Operand} {ts : Array TypeId} (ho : o.op = .call { callee := .builtin .max, args := #[x, y, z], argTypes := ts }) :
    PureOk P G dt n ds o (fun e t0 hp k => ((opd G dt n ds x).run e t0).on_i fun kd i => ((opd G dt n ds y).run e t0).on_i fun _ j => ((opd G dt n ds z).run e t0).on_i fun _ l => match decide (j > i) with
      | true => (match decide (l > j) with
        | true => k (.i kd l) hp
        | false => k (.i kd j) hp)
      | false => (match decide (l > i) with
        | true => k (.i kd l) hp
        | false => k (.i kd i) hp)) :=
  .pure fun e t0 hp k r hr => by
    obtain ⟨kd, i, hi, h1⟩ := AV.on_i_some hr
    obtain ⟨kd', j, hj, h2⟩ := AV.on_i_some h1
    obtain ⟨kd2, l, hl, h3⟩ := AV.on_i_some h2
    have key : k (.i kd (if l > (if j > i then j else i) then l else (if j > i then j else i))) hp = some r := by
      split at h3
      · rename_i h
        rw [if_pos (of_decide_eq_true h)]
        split at h3
        · rename_i h; rw [if_pos (of_decide_eq_true h)]; exact h3
        · rename_i h; rw [if_neg (of_decide_eq_false h)]; exact h3
      · rename_i h
        rw [if_neg (of_decide_eq_false h)]
        split at h3
        · rename_i h; rw [if_pos (of_decide_eq_true h)]; exact h3
        · rename_i h; rw [if_neg (of_decide_eq_false h)]; exact h3
    refine ⟨_, key, fun φ a w hx => ⟨_, ?_, rfl⟩⟩
    have e1 : a.eval x = .int kd i := by have := (hx x (by rw [ho]; simp [Op.operands, Call.operands])); rw [hi] at this; exact this
    have e2 : a.eval y = .int kd' j := by have := (hx y (by rw [ho]; simp [Op.operands, Call.operands])); rw [hj] at this; exact this
    have e3 : a.eval z = .int kd2 l := by have := (hx z (by rw [ho]; simp [Op.operands, Call.operands])); rw [hl] at this; exact this
    unfold execOp
    simp only [ho, resolve, invoke, builtin, Sem.run_bind, Sem.run_pure, Result.andThen_ok, List.map_toArray, List.map_cons, List.map_nil, e1, e2, e3]
    simp [Builtin.max_, Builtin.max2, Result.andThen]
theorem assert_ok {x : Operand} {xT t : TypeId} {d : TypeDesc} (ho : o.op = .typeAssert x xT t false) (hu : P.underlying t = some d) (hd : ∀ m, d ≠ .interface m) :
    PureOk P G dt n ds o (fun e t0 hp k => match (opd G dt n ds x).run e t0 with
      | .ifc t' v => match Nat.beq t' t with
        | true => k v hp
        | false => none
      | _ => none) :=
  .pure fun e t0 hp k r hr => by
    split at hr
    · rename_i t' v h
      split at hr
      · rename_i ht
        have ht' := Nat.eq_of_beq_eq_true ht
        subst ht'
        refine ⟨_, hr, fun φ a w hx => ?_⟩
        have hv := (hx x (by rw [ho]; simp [Op.operands, Call.operands]))
        rw [h] at hv
        obtain ⟨v', e1, e2⟩ := hv
        refine ⟨v', ?_, e2⟩
        unfold execOp
        rw [ho]
        cases d <;> first | (exact absurd rfl (hd _)) | simp [Instr.typeAssert, run_underlying hu, e1]
      · cases hr
    · cases hr
theorem sliceP_ok {t el : TypeId} {len : Nat} {i : TypeInfo} {x : Operand} {low high : Option Operand} (ho : o.op = .slice t x low high none) (hu : P.underlying t = some (.array len el)) (hi : P.info? el = some i) :
    PureOk P G dt n ds o (fun e t0 hp k => ((opd G dt n ds x).run e t0).on_p fun r q => boundR (high.map (opd G dt n ds)) len e t0 fun h => boundR (low.map (opd G dt n ds)) 0 e t0 fun b => match Nat.ble b h with
      | false => none
      | true => match Nat.ble h len with
        | false => none
        | true => match Nat.beq len b with
          | true => k (.sl r q (Nat.sub h b) (some (Nat.sub len b))) hp
          | false => k (.sl r (Nat.add q (Nat.mul b i.size)) (Nat.sub h b) (some (Nat.sub len b))) hp) :=
  .pure fun e t0 hp k r hr => by
    obtain ⟨b0, q, hb0, h1⟩ := AV.on_p_some hr
    obtain ⟨h, h2, hh⟩ := boundR_some h1
    obtain ⟨b, h3, hb⟩ := boundR_some h2
    split at h3
    · cases h3
    rename_i c1
    split at h3
    · cases h3
    rename_i c2
    have c1' : b ≤ h := Nat.le_of_ble_eq_true c1
    have c2' : h ≤ len := Nat.le_of_ble_eq_true c2
    have key : k (.sl b0 (if len = b then q else q + b * i.size) (h - b) (some (len - b))) hp = some r := by
      split at h3
      · rename_i c3
        rw [if_pos (Nat.eq_of_beq_eq_true c3)]; exact h3
      · rename_i c3
        rw [if_neg (fun e => by subst e; rw [Nat.beq_refl] at c3; cases c3)]; exact h3
    refine ⟨_, key, fun φ a w hx => ?_⟩
    obtain ⟨g, hg, e1⟩ : ∃ g, φ b0 = some g ∧ a.eval x = .pointer (some ⟨g.1, q, none⟩) := by have := (hx x (by rw [ho]; simp [Op.operands, Call.operands])); rw [hb0] at this; exact this
    have hrun := bounds_run (P := P) (w := w) false (hb φ a.eval (fun y h => hx y (by rw [ho, h]; simp [Op.operands, Call.operands]))) (hh φ a.eval (fun y h => hx y (by rw [ho, h]; simp [Op.operands, Call.operands]))) c2' c1'
    refine ⟨.slice (some ⟨g.1, if len = b then q else q + b * i.size, none⟩) (h - b) (len - b), ?_, g, _, hg, rfl, Nat.sub_le_sub_right c2' _, fun _ h => by cases h; rfl⟩
    unfold execOp
    rw [ho]
    by_cases c3 : len = b
    · subst c3
      simp [Instr.sliceAt, run_underlying hu, Instr.sureAddr, e1, hrun, sizeOf, typeInfo, hi]
    · simp [Instr.sliceAt, run_underlying hu, Instr.sureAddr, e1, hrun, sizeOf, typeInfo, hi, c3, add_lit]
end
end Go.Proofs.YtobaebpmdimljaaGreatDoor.Clo
end
section
namespace Go.Proofs.YtobaebpmdimljaaGreatDoor.Clo
open Go.RowKit
set_option linter.unusedVariables false
set_option linter.unusedSimpArgs false
noncomputable def newB (x : Blk) (hp : HP) (k : Id → HP → R) : R :=
  hp.on fun m nx => match last nx with
    | true => none
    | false => k nx (.mk (m.set nx x) (inc nx))
theorem newB_some {x : Blk} {hp : HP} {k : Id → HP → R} {r : AV × HP} (h : newB x hp k = some r) : ∃ m nx, hp = .mk m nx ∧ last nx = false ∧ k nx (.mk (m.set nx x) (inc nx)) = some r := by
  cases hp with
  | mk m nx =>
  have h' : (match last nx with | true => none | false => k nx (.mk (m.set nx x) (inc nx)) : R) = some r := h
  cases hl : last nx with
  | true => rw [hl] at h'; cases h'
  | false => rw [hl] at h'; exact ⟨m, nx, rfl, hl, h'⟩
section
variable {P : Program} {G dt n : Nat} {ds : List (Option Nat)} {o : Oper}
theorem makeMap_ok {t : TypeId} (ho : o.op = .makeMap t none) :
    MakeOk P G dt n ds o (fun e t0 hp k => newB (.tab .nil) hp fun r hp => k (.mp r) hp) := by
  intro e t0 hp k r hr
  obtain ⟨m, nx, e', hl, h1⟩ := newB_some hr
  refine ⟨m, nx, _, _, e', hl, rfl, h1, fun φ a w g1 g2 => ?_⟩
  refine ⟨.map (some w.heap.size), .map #[] 0, 0, _, ?_, .alloc _ _, ⟨#[], 0, rfl, rfl⟩, fun ψ _ hn => ⟨_, hn, rfl⟩⟩
  unfold execOp
  rw [ho]
  rfl
theorem rangeS_ok {t : TypeId} {x : Operand} (ho : o.op = .range t x) (hu : P.underlying t = some .string) :
    MakeOk P G dt n ds o (fun e t0 hp k => ((opd G dt n ds x).run e t0).on_s fun l => newB (.iter l 0) hp fun r hp => k (.p r 0) hp) := by
  intro e t0 hp k r hr
  obtain ⟨l, hl, h0⟩ := AV.on_s_some hr
  obtain ⟨m, nx, e', hlast, h1⟩ := newB_some h0
  refine ⟨m, nx, _, _, e', hlast, rfl, h1, fun φ a w g1 g2 => ?_⟩
  have hx := g2 x (by rw [ho]; simp [Op.operands, Call.operands])
  rw [hl] at hx
  have e1 : a.eval x = .string (bytesOf l) := hx.1
  refine ⟨.pointer (some ⟨w.heap.size, 0, none⟩), .stringIter (bytesOf l) 0, 0, _, ?_, .alloc _ _, rfl, fun ψ _ hn => ⟨_, hn, rfl⟩⟩
  unfold execOp
  rw [ho]
  simp [Instr.range, run_underlying hu, e1]
end
end Go.Proofs.YtobaebpmdimljaaGreatDoor.Clo
end
section
namespace Go.Proofs.YtobaebpmdimljaaGreatDoor.Clo
open Go.RowKit
set_option linter.unusedVariables false
set_option linter.unusedSimpArgs false
noncomputable def onIter (m : Mem) (r : Id) (k : List Nat → Nat → R) : R :=
  Option.rec (motive := fun _ => R) none (fun b => Blk.rec (motive := fun _ => R) (fun _ _ _ _ _ => none) (fun _ => none) k (fun _ => none) (fun _ _ => none) b) (m.get r)
theorem onIter_some {m : Mem} {r : Id} {k : List Nat → Nat → R} {x : AV × HP} (h : onIter m r k = some x) : ∃ l p, m.get r = some (.iter l p) ∧ k l p = some x := by
  unfold onIter at h
  cases e : m.get r with
  | none => rw [e] at h; cases h
  | some b =>
    rw [e] at h
    cases b with
    | row t gr fz ro cells => cases h
    | tab l => cases h
    | iter s p => exact ⟨s, p, rfl, h⟩
    | dfd b => cases h
    | loop st pend => cases h
section
variable {P : Program} {G dt n : Nat} {ds : List (Option Nat)} {o : Oper}
theorem nextS_ok {x : Operand} (ho : o.op = .next x true) :
    ValOk P G dt n ds o (fun e t0 hp k => ((opd G dt n ds x).run e t0).on_p fun r q => match Nat.beq q 0 with
      | false => none
      | true => hp.on fun mem nx => onIter mem r fun l p => match Nat.blt p (lenL l) with
        | false => k (.tu (.cons (.b false) .nil)) (.mk mem nx)
        | true => nthR p l fun b => match Nat.blt b 128 with
          | false => none
          | true => k (.tu (.cons (.b true) (.cons (.i .i64 (Int.ofNat p)) (.cons (.i .i32 (Int.ofNat b)) .nil)))) (.mk (mem.set r (.iter l (Nat.add p 1))) nx)) := by
  intro e t0 hp k rr hr
  obtain ⟨r, q, hq, h1⟩ := AV.on_p_some hr
  split at h1
  · cases h1
  rename_i hq0
  have hq0' : q = 0 := Nat.eq_of_beq_eq_true hq0
  subst hq0'
  cases hp with
  | mk mem nx =>
  obtain ⟨l, p, hm, h2⟩ := onIter_some (show onIter mem r _ = some rr from h1)
  have eqs : ∀ {sts : List Site} φ (B : Bse sts) (a : Act) w, Glo G φ → OpsR G dt n ds φ e t0 a.eval o.op → WH φ B (.mk mem nx) w → ∃ g : Plc, φ r = some g ∧ a.eval x = .pointer (some ⟨g.1, 0, none⟩) ∧ w.heap[g.1]? = some (.stringIter (bytesOf l) p) := by
    intro sts φ B a w g1 g2 hw
    have hx := g2 x (by rw [ho]; simp [Op.operands, Call.operands])
    rw [hq] at hx
    obtain ⟨g, hg, e1⟩ := hx
    obtain ⟨ob, h3, h4⟩ := (show WR φ B mem nx w from hw).blk r _ g hm hg
    have h4' : ob = .stringIter (bytesOf l) p := h4
    subst h4'
    exact ⟨g, hg, e1, h3⟩
  split at h2
  · rename_i hlt
    refine ⟨_, _, h2, fun φ B a w g1 g2 hw => ?_⟩
    obtain ⟨g, hg, e1, e2⟩ := eqs φ B a w g1 g2 hw
    have hn : ¬ (p < (bytesOf l).size) := by
      rw [bytes_size, ← lenL_eq]
      intro h
      have hb : Nat.blt p (lenL l) = true := by rw [Nat.blt_eq]; exact h
      rw [hb] at hlt
      cases hlt
    refine ⟨φ, .tuple #[.bool false], w, .inl ?_, ⟨_, rfl, _, _, rfl, rfl, rfl⟩, Step.refl, hw⟩
    unfold execOp
    rw [ho]
    simp [e1, Instr.next, getObj, Sem.run, e2, hn]
  · rename_i hlt
    obtain ⟨b, hb, h3⟩ := nthR_some p h2
    split at h3
    · cases h3
    rename_i hb8
    have hb8' : b < 128 := by simpa [Nat.blt_eq] using hb8
    refine ⟨_, _, h3, fun φ B a w g1 g2 hw => ?_⟩
    obtain ⟨g, hg, e1, e2⟩ := eqs φ B a w g1 g2 hw
    have hp : p < (bytesOf l).size := by
      rw [bytes_size]
      exact (List.getElem?_eq_some_iff.1 hb).1
    have hgb : (bytesOf l)[p]'hp = UInt8.ofNat b := by
      have := bytes_get l p
      rw [hb, getElem?_pos (bytesOf l) p hp] at this
      exact Option.some.inj this
    have hto : ((bytesOf l)[p]'hp).toNat = b := by
      rw [hgb, UInt8.toNat_ofNat']
      exact Nat.mod_eq_of_lt (by omega)
    have hdec : Utf8.decode (bytesOf l) p = (b, 1) := by
      rw [decode_ascii (bytesOf l) p hp (by rw [hto]; exact hb8'), hto]
    have hgs : g.1 < w.heap.size := (show WR φ B mem nx w from hw).lt r g hg
    obtain ⟨s1, s2⟩ := (show WR φ B mem nx w from hw).put (w' := { w with heap := w.heap.setIfInBounds g.1 (.stringIter (bytesOf l) (p + 1)) }) (y := .iter l (p + 1)) (o := .stringIter (bytesOf l) (p + 1)) hm rfl rfl hg rfl rfl rfl (by simp)
      (fun k hk => by simp [Array.getElem?_setIfInBounds, Ne.symm hk]) (by simp [Array.getElem?_setIfInBounds, hgs]) rfl
    refine ⟨φ, .tuple #[.bool true, .int .i64 (p : Int), .int .i32 (b : Int)], _, .inl ?_, ⟨_, rfl, _, _, rfl, rfl, _, _, rfl, rfl, _, _, rfl, rfl, rfl⟩, s2, s1⟩
    unfold execOp
    rw [ho]
    simp [e1, Instr.next, getObj, setObj, Sem.run, e2, hp, hdec, goInt]
end
end Go.Proofs.YtobaebpmdimljaaGreatDoor.Clo
end
section
namespace Go.Proofs.YtobaebpmdimljaaGreatDoor.Clo
open Go.RowKit
set_option linter.unusedVariables false
set_option linter.unusedSimpArgs false
set_option linter.constructorNameAsVariable false
noncomputable def keyEq : AV → AV → Option Bool
  | .s a, .s b => some (eqL a b)
  | .i k a, .i k' b => if k = k' then some (eqI a b) else none
  | _, _ => none
def keyOk : TypeDesc → AV → Bool
  | .string, .s _ => true
  | .int k, .i k' _ => decide (k' = k)
  | _, _ => false
noncomputable def findK (key : AV) : AV → Nat → (Option (Nat × AV) → R) → R
  | .nil, _, k => k none
  | .cons (.cons x v) r, j, k => match keyEq key x with
    | some true => k (some (j, v))
    | some false => findK key r (j + 1) k
    | none => none
  | _, _, _ => none
theorem bytes_inj : ∀ {a b : List Nat}, B256 a → B256 b → bytesOf a = bytesOf b → a = b := by
  intro a b ha hb h
  have h2 : a.map UInt8.ofNat = b.map UInt8.ofNat := by rw [← bytes_toList, ← bytes_toList, h]
  clear h
  induction a generalizing b with
  | nil => cases b with
    | nil => rfl
    | cons y b => cases h2
  | cons x a ih => cases b with
    | nil => cases h2
    | cons y b =>
      rw [List.map_cons, List.map_cons] at h2
      injection h2 with e1 e2
      rw [ofNat_inj (ha x (by simp)) (hb y (by simp)) e1, ih (fun z hz => ha z (by simp [hz])) (fun z hz => hb z (by simp [hz])) e2]
theorem keyOk_is {d : TypeDesc} {key : AV} (hk : keyOk d key = true) {φ : Id → Option Plc} {kv : Value} (h : VR φ key kv) : Go.MapKept.IsKey d kv := by
  unfold keyOk at hk
  split at hk
  · rw [h.1]; trivial
  · have : kv = _ := h
    rw [this]
    have hk' := of_decide_eq_true hk
    exact hk'
  · cases hk
theorem keyEq_ok {d : TypeDesc} {key x : AV} {b : Bool} (hk : keyOk d key = true) (he : keyEq key x = some b) {φ : Id → Option Plc} {kv xv : Value} (h1 : VR φ key kv) (h2 : VR φ x xv) : Instr.sameNow d kv xv = some b ∧ (b = true → xv = kv) := by
  unfold keyEq at he
  split at he
  · rename_i a a'
    cases d <;> simp only [keyOk, Bool.false_eq_true] at hk
    simp only [Option.some.injEq] at he
    obtain ⟨e1, b1⟩ := h1
    obtain ⟨e2, b2⟩ := h2
    subst e1 e2
    cases b with
    | true =>
      have := (eqL_iff a a').1 he
      subst this
      exact ⟨by simp [Instr.sameNow, (Go.MapKept.bytes_beq (bytesOf a) (bytesOf a)).2 rfl], fun _ => rfl⟩
    | false =>
      have hne : (bytesOf a == bytesOf a') = false := Bool.eq_false_iff.2 fun h => by
        have := bytes_inj b1 b2 ((Go.MapKept.bytes_beq _ _).1 h)
        rw [(eqL_iff a a').2 this] at he
        cases he
      exact ⟨by simp [Instr.sameNow, hne], fun h => by cases h⟩
  · rename_i k a k' a'
    split at he
    · rename_i hkk
      subst hkk
      cases d <;> simp only [keyOk, Bool.false_eq_true] at hk
      have e1 : kv = .int k a := h1
      have e2 : xv = .int k a' := h2
      subst e1 e2
      simp only [Option.some.injEq] at he
      rw [eqI_eq] at he
      refine ⟨by simp [Instr.sameNow, he], fun hb => ?_⟩
      subst hb
      have : a = a' := by simpa using he
      rw [this]
    · cases he
  · cases he
theorem findK_some {d : TypeDesc} {key : AV} (hk : keyOk d key = true) : ∀ {l : AV} {j0 : Nat} {k : Option (Nat × AV) → R} {x : AV × HP}, findK key l j0 k = some x → ∃ a, k a = some x ∧ ∀ φ es kv, VR φ key kv → ents φ l es →
    (a = none ∧ ∀ i, Instr.findNow d kv es i = some none) ∨ ∃ j v e, a = some (j0 + j, v) ∧ es[j]? = some e ∧ e.key = kv ∧ VR φ v e.val ∧ ∀ i, Instr.findNow d kv es i = some (some (i + j, e.val)) := by
  intro l j0 k x h
  fun_induction findK key l j0 k with
  | case1 j k => exact ⟨none, h, fun φ es kv hv he => .inl ⟨rfl, fun i => by have : es = [] := he; subst this; rfl⟩⟩
  | case2 y v r j k hy =>
    refine ⟨_, h, fun φ es kv hv he => .inr ?_⟩
    obtain ⟨e, es', e1, e2, e3, _⟩ := he
    obtain ⟨s1, s2⟩ := keyEq_ok hk hy hv e2
    subst e1
    exact ⟨0, v, e, rfl, rfl, s2 rfl, e3, fun i => by simp [Instr.findNow, s1]⟩
  | case3 y v r j k hy ih =>
    obtain ⟨a, h1, h2⟩ := ih h
    refine ⟨a, h1, fun φ es kv hv he => ?_⟩
    obtain ⟨e, es', e1, e2, e3, e4⟩ := he
    obtain ⟨s1, _⟩ := keyEq_ok hk hy hv e2
    subst e1
    rcases h2 φ es' kv hv e4 with ⟨q1, q2⟩ | ⟨j', v', e', q1, q2, q3, q4, q5⟩
    · exact .inl ⟨q1, fun i => by simp [Instr.findNow, s1, q2]⟩
    · exact .inr ⟨j' + 1, v', e', by rw [q1]; congr 2; omega, by simpa using q2, q3, q4, fun i => by simp [Instr.findNow, s1, q5]; omega⟩
  | case4 => cases h
  | case5 => cases h
noncomputable def setVal (v : AV) (n : Nat) : AV → AV :=
  Nat.rec (motive := fun _ => AV → AV) (fun l => match l with | .cons (.cons x _) r => .cons (.cons x v) r | l => l) (fun _ ih l => match l with | .cons y r => .cons y (ih r) | l => l) n
theorem ents_set {φ : Id → Option Plc} {v : AV} {kv val : Value} (hv : VR φ v val) : ∀ (j : Nat) {l : AV} {es : List MapEntry} {e : MapEntry}, ents φ l es → es[j]? = some e → e.key = kv → ents φ (setVal v j l) (es.modify j fun e => { e with key := kv, val := val })
  | j, .nil, es, e, h, he, hk => by have : es = [] := h; subst this; simp at he
  | 0, .cons (.cons x y) r, es, e, ⟨e', es', e1, e2, e3, e4⟩, he, hk => by
    subst e1
    simp at he
    subst he
    exact ⟨{ e' with key := kv, val := val }, es', by simp, by rw [← hk]; exact e2, hv, e4⟩
  | j + 1, .cons (.cons x y) r, es, e, ⟨e', es', e1, e2, e3, e4⟩, he, hk => by
    subst e1
    exact ⟨e', es'.modify j fun e => { e with key := kv, val := val }, by simp, e2, e3, ents_set hv j e4 (by simpa using he) hk⟩
theorem ents_app {φ : Id → Option Plc} {key v : AV} {e : MapEntry} (h1 : VR φ key e.key) (h2 : VR φ v e.val) : ∀ {l : AV} {es : List MapEntry}, ents φ l es → ents φ (l.app (.cons (.cons key v) .nil)) (es ++ [e])
  | .nil, es, h => by have : es = [] := h; subst this; exact ⟨e, [], rfl, h1, h2, rfl⟩
  | .cons (.cons x y) r, es, ⟨e', es', e1, e2, e3, e4⟩ => by subst e1; exact ⟨e', _, rfl, e2, e3, ents_app h1 h2 e4⟩
end Go.Proofs.YtobaebpmdimljaaGreatDoor.Clo
end
section
namespace Go.Proofs.YtobaebpmdimljaaGreatDoor.Clo
open Go.RowKit
set_option linter.unusedVariables false
set_option linter.unusedSimpArgs false
set_option linter.constructorNameAsVariable false
noncomputable def onTab (m : Mem) (r : Id) (k : AV → R) : R :=
  Option.rec (motive := fun _ => R) none (fun b => Blk.rec (motive := fun _ => R) (fun _ _ _ _ _ => none) k (fun _ _ => none) (fun _ => none) (fun _ _ => none) b) (m.get r)
theorem onTab_some {m : Mem} {r : Id} {k : AV → R} {x : AV × HP} (h : onTab m r k = some x) : ∃ l, m.get r = some (.tab l) ∧ k l = some x := by
  unfold onTab at h
  cases e : m.get r with
  | none => rw [e] at h; cases h
  | some b =>
    rw [e] at h
    cases b with
    | row t gr fz ro cells => cases h
    | tab l => exact ⟨l, rfl, h⟩
    | iter s p => cases h
    | dfd b => cases h
    | loop st pend => cases h
noncomputable def finF (z : Value) (ok : Bool) (hp : HP) (k : KV) (q : Option (Nat × AV)) : R := match ok, q with
  | true, some (_, v) => k (.tu (.cons v (.cons (.b true) .nil))) hp
  | true, none => k (.tu (.cons (ofConst z) (.cons (.b false) .nil))) hp
  | false, some (_, v) => k v hp
  | false, none => k (ofConst z) hp
def finV (z : Value) (ok : Bool) (q : Option (Nat × Value)) : Value := match ok, q with
  | true, some (_, v) => .tuple #[v, .bool true]
  | true, none => .tuple #[z, .bool false]
  | false, some (_, v) => v
  | false, none => z
noncomputable def lookF (d : TypeDesc) (z : Value) (ok : Bool) (key a : AV) (hp : HP) (k : KV) : R := match keyOk d key with
  | false => none
  | true => match a with
    | .mn => finF z ok hp k none
    | .mp r => hp.on fun mem _ => onTab mem r fun l => findK key l 0 (finF z ok hp k)
    | _ => none
noncomputable def updF (d : TypeDesc) (key v a : AV) (hp : HP) (k : KV) : R := match keyOk d key with
  | false => none
  | true => a.on_mp fun r => hp.on fun mem nx => onTab mem r fun l => findK key l 0 fun q => match q with
    | none => k undefA (.mk (mem.set r (.tab (l.app (.cons (.cons key v) .nil)))) nx)
    | some (j, _) => k undefA (.mk (mem.set r (.tab (setVal v j l))) nx)
section
variable {P : Program} {G dt n : Nat} {ds : List (Option Nat)} {o : Oper}
theorem lookup_ok {mT kt el : TypeId} {x y : Operand} {ok : Bool} {i : TypeInfo} {z : Value} {d : TypeDesc} (ho : o.op = .lookup mT x y ok) (hu : P.underlying mT = some (.map kt el)) (hk : P.underlying kt = some d) (hi : P.info? el = some i) (hz : i.zero = some z) :
    StillOk P G dt n ds o (fun e t0 hp k => lookF d z ok ((opd G dt n ds y).run e t0) ((opd G dt n ds x).run e t0) hp k) :=
  fun e t0 hp k r hr => by
    have h1 : lookF d z ok ((opd G dt n ds y).run e t0) ((opd G dt n ds x).run e t0) hp k = some r := hr
    unfold lookF at h1
    split at h1
    · cases h1
    rename_i hko
    have run : ∀ (w : World) (es : List MapEntry) (m key : Value) (q : Option (Nat × Value)), Go.MapKept.IsKey d key → ((m = .map none ∧ es = []) ∨ ∃ g arr c, m = .map (some g) ∧ w.heap[g]? = some (.map arr c) ∧ arr.toList = es) → Instr.findNow d key es 0 = some q →
        (Instr.lookup mT m key ok).run P w = .ok (finV z ok q) w := by
      intro w es m key q hkey hm hq
      have hf := Go.MapKept.run_findKey (P := P) (w := w) hk hq
      have hc : ∀ e, (Instr.checkKey e 10000 kt key).run P w = .ok () w := fun e => Go.MapKept.run_checkKey hk hkey e 9999
      rcases hm with ⟨rfl, rfl⟩ | ⟨g, arr, c, rfl, hg, rfl⟩
      · cases hq
        cases ok <;> simp [Instr.lookup, run_underlying hu, hc, hf, zeroValue, typeInfo, hi, hz, finV]
      · cases ok <;> rcases q with _ | ⟨j, v⟩ <;> simp [Instr.lookup, run_underlying hu, getObj, Sem.run, hg, hc, hf, zeroValue, typeInfo, hi, hz, finV]
    have fin : ∀ q : Option (Nat × AV), finF z ok hp k q = some r → ∃ v, k v hp = some r ∧ ∀ φ (p : Option (Nat × Value)), ((q = none ∧ p = none) ∨ ∃ j j' u w, q = some (j', u) ∧ p = some (j, w) ∧ VR φ u w) → VR φ v (finV z ok p) := by
      intro q hq
      cases ok <;> rcases q with _ | ⟨j', u⟩
      · refine ⟨_, hq, fun φ p hp => ?_⟩
        rcases hp with ⟨_, rfl⟩ | ⟨j, j', u, w, h, _⟩
        · exact ofConst_ok φ z
        · cases h
      · refine ⟨_, hq, fun φ p hp => ?_⟩
        rcases hp with ⟨h, _⟩ | ⟨j, j', u, w, h, rfl, hv⟩
        · cases h
        · cases h; exact hv
      · refine ⟨_, hq, fun φ p hp => ?_⟩
        rcases hp with ⟨_, rfl⟩ | ⟨j, j', u, w, h, _⟩
        · exact ⟨_, rfl, _, _, rfl, ofConst_ok φ z, _, _, rfl, rfl, rfl⟩
        · cases h
      · refine ⟨_, hq, fun φ p hp => ?_⟩
        rcases hp with ⟨h, _⟩ | ⟨j, j', u, w, h, rfl, hv⟩
        · cases h
        · cases h; exact ⟨_, rfl, _, _, rfl, hv, _, _, rfl, rfl, rfl⟩
    have wrap : ∀ (a : Act) (w : World) (v' : Value), (Instr.lookup mT (a.eval x) (a.eval y) ok).run P w = .ok v' w → (execOp a.eval o).run P w = .ok (.value v') w := by
      intro a w v' h
      unfold execOp
      simp only [ho, Sem.run_bind, h, Result.andThen_ok]
      rfl
    split at h1
    · rename_i hm
      obtain ⟨v, h2, h3⟩ := fin none h1
      refine ⟨v, h2, fun φ a w _ hx hw => ?_⟩
      have e1 : a.eval x = .map none := by have := hx x (by rw [ho]; simp [Op.operands]); rw [hm] at this; exact this
      have hkey := keyOk_is hko (hx y (by rw [ho]; simp [Op.operands]))
      exact ⟨_, wrap a w _ (run w [] (a.eval x) _ none hkey (.inl ⟨e1, rfl⟩) rfl), h3 φ none (.inl ⟨rfl, rfl⟩)⟩
    · rename_i r0 hm
      cases hp with
      | mk mem nx =>
      obtain ⟨l, hl, h2⟩ := onTab_some (show onTab mem r0 _ = some r from h1)
      obtain ⟨q, h3, h4⟩ := findK_some hko h2
      obtain ⟨v, h5, h6⟩ := fin q h3
      refine ⟨v, h5, fun φ a w _ hx hw => ?_⟩
      obtain ⟨g, hg, e1⟩ : ∃ g, φ r0 = some g ∧ a.eval x = .map (some g.1) := by have := hx x (by rw [ho]; simp [Op.operands]); rw [hm] at this; exact this
      have hky := hx y (by rw [ho]; simp [Op.operands])
      have hkey := keyOk_is hko hky
      obtain ⟨ob, h7, es, c, h8, h9⟩ := (show RW φ mem w from hw).blk r0 _ g hl hg
      subst h8
      rcases h4 φ es.toList _ hky h9 with ⟨hq, hf⟩ | ⟨j, u, e', hq, _, _, hv, hf⟩
      · exact ⟨_, wrap a w _ (run w es.toList (a.eval x) _ _ hkey (.inr ⟨g.1, es, c, e1, h7, rfl⟩) (hf 0)), h6 φ _ (.inl ⟨hq, rfl⟩)⟩
      · exact ⟨_, wrap a w _ (run w es.toList (a.eval x) _ _ hkey (.inr ⟨g.1, es, c, e1, h7, rfl⟩) (hf 0)), h6 φ _ (.inr ⟨_, _, u, _, hq, rfl, hv⟩)⟩
    · cases h1
theorem update_ok {mT kt el : TypeId} {x y u : Operand} {d : TypeDesc} (ho : o.op = .mapUpdate mT x y u ∨ o.op = .insert mT x y u) (hu : P.underlying mT = some (.map kt el)) (hk : P.underlying kt = some d) :
    ValOk P G dt n ds o (fun e t0 hp k => updF d ((opd G dt n ds y).run e t0) ((opd G dt n ds u).run e t0) ((opd G dt n ds x).run e t0) hp k) := by
  intro e t0 hp k r hr
  have h1 : updF d ((opd G dt n ds y).run e t0) ((opd G dt n ds u).run e t0) ((opd G dt n ds x).run e t0) hp k = some r := hr
  unfold updF at h1
  split at h1
  · cases h1
  rename_i hko
  obtain ⟨r0, hm, h1⟩ := AV.on_mp_some h1
  cases hp with
  | mk mem nx =>
  obtain ⟨l, hl, h2⟩ := onTab_some (show onTab mem r0 _ = some r from h1)
  obtain ⟨q, h3, h4⟩ := findK_some hko h2
  have key : ∀ l', k undefA (.mk (mem.set r0 (.tab l')) nx) = some r → (∀ φ (es : Array MapEntry) (c : Nat) kv val, VR φ ((opd G dt n ds y).run e t0) kv → VR φ ((opd G dt n ds u).run e t0) val → Go.MapKept.IsKey d kv → ents φ l es.toList →
        ∃ es' c', ents φ l' es'.toList ∧ ∀ w (g : Nat), w.heap[g]? = some (.map es c) → (Instr.mapUpdate mT (.map (some g)) kv val).run P w = .ok () { w with heap := w.heap.setIfInBounds g (.map es' c') }) →
      ∃ v hp', k v hp' = some r ∧ ∀ {sts : List Site} φ (B : Bse sts) (a : Act) w, Glo G φ → OpsR G dt n ds φ e t0 a.eval o.op → WH φ B (.mk mem nx) w →
        ∃ ψ v' w', ((execOp a.eval o).run P w = .ok (.value v') w' ∨ ((execOp a.eval o).run P w = .ok .skip w' ∧ v' = undef)) ∧ VR ψ v v' ∧ StH φ (.mk mem nx) w ψ hp' w' ∧ WH ψ B hp' w' := by
    intro l' hk' hall
    refine ⟨undefA, _, hk', fun φ B a w g1 hx hw => ?_⟩
    have mem3 : x ∈ o.op.operands ∧ y ∈ o.op.operands ∧ u ∈ o.op.operands := by rcases ho with ho | ho <;> (rw [ho]; simp [Op.operands])
    obtain ⟨g, hg, e1⟩ : ∃ g, φ r0 = some g ∧ a.eval x = .map (some g.1) := by have := hx x mem3.1; rw [hm] at this; exact this
    have hky := hx y mem3.2.1
    have hkey := keyOk_is hko hky
    have hw' : WR φ B mem nx w := hw
    obtain ⟨ob, h7, es, c, h8, h9⟩ := hw'.blk r0 _ g hl hg
    subst h8
    obtain ⟨es', c', f1, f2⟩ := hall φ es c _ _ hky (hx u mem3.2.2) hkey h9
    have hrun := f2 w g.1 h7
    have hgs := hw'.lt r0 g hg
    obtain ⟨s1, s2⟩ := hw'.put (w' := { w with heap := w.heap.setIfInBounds g.1 (.map es' c') }) (y := .tab l') (o := .map es' c') hl rfl rfl hg rfl rfl rfl (by simp)
      (fun k hk => by simp [Array.getElem?_setIfInBounds, Ne.symm hk]) (by simp [Array.getElem?_setIfInBounds, hgs]) ⟨es', c', rfl, f1⟩
    refine ⟨φ, undef, _, .inr ⟨?_, rfl⟩, undefA_ok φ, s2, s1⟩
    unfold execOp
    rcases ho with ho | ho <;> (simp only [ho, e1, Sem.run_bind, hrun, Result.andThen_ok]; rfl)
  cases q with
  | none =>
    refine key _ h3 fun φ es c kv val hky hval hkey he => ?_
    rcases h4 φ es.toList kv hky he with ⟨_, hf⟩ | ⟨_, _, _, hq, _⟩
    · refine ⟨es.push { key := kv, val, born := c }, c + 1, by rw [Array.toList_push]; exact ents_app (e := { key := kv, val, born := c }) hky hval he, fun w g hb => ?_⟩
      simp [Instr.mapUpdate, run_underlying hu, Go.MapKept.run_getObj_map hb, Go.MapKept.run_checkKey hk hkey, Go.MapKept.run_findKey hk (hf 0), Go.MapKept.run_setObj_map _ hb, Result.andThen]
    · cases hq
  | some jv =>
    obtain ⟨j0, v0⟩ := jv
    refine key _ h3 fun φ es c kv val hky hval hkey he => ?_
    rcases h4 φ es.toList kv hky he with ⟨hq, _⟩ | ⟨j, v', e', hq, hj, hek, _, hf⟩
    · cases hq
    · simp only [Option.some.injEq, Prod.mk.injEq, Nat.zero_add] at hq
      obtain ⟨rfl, _⟩ := hq
      have hf0 := hf 0
      rw [Nat.zero_add] at hf0
      have hj' : es[j0]? = some e' := by rw [← Array.getElem?_toList]; exact hj
      refine ⟨es.modify j0 fun e => { e with key := kv, val := val }, c, by rw [Array.toList_modify]; exact ents_set hval j0 he hj hek, fun w g hb => ?_⟩
      simp [Instr.mapUpdate, run_underlying hu, Go.MapKept.run_getObj_map hb, Go.MapKept.run_checkKey hk hkey, Go.MapKept.run_findKey hk hf0, hj', hek, Go.MapKept.run_keyThatStays hkey, Go.MapKept.run_setObj_map _ hb, Result.andThen]
end
end Go.Proofs.YtobaebpmdimljaaGreatDoor.Clo
end
