/- Part 8 of a proof laid in parts, one behind the other; no condition of its own. -/
import Derived.Test.YtphifhbgigaeoaaGreatDoorZ07
import Derived.Laws.MakeOwn
import Derived.Laws.Small
import Derived.Laws.BytesString
import Derived.Laws.BytesArg
import Derived.Lib.MinMax
import Derived.Laws.RangeString
set_option linter.all false
section
namespace Go.Proofs.YtphifhbgigaeoaaGreatDoor.Clo
open Go.RowKit
set_option linter.unusedVariables false
set_option linter.unusedSimpArgs false
noncomputable def partF (size : Nat) (a : AV) (b h : Nat) (k : AV → R) : R := match a with
  | .sn => match Nat.ble h 0 with
    | true => k .sn
    | false => none
  | .sl r q m (some c) => match Nat.ble h c with
    | false => none
    | true => match Nat.beq c b with
      | true => k (.sl r q (Nat.sub h b) (some (Nat.sub c b)))
      | false => k (.sl r (Nat.add q (Nat.mul b size)) (Nat.sub h b) (some (Nat.sub c b)))
  | .sl r q m none => match Nat.ble h m with
    | false => none
    | true => match Nat.blt b m with
      | true => k (.sl r (Nat.add q (Nat.mul b size)) (Nat.sub h b) none)
      | false => match Nat.beq b 0 with
        | true => k (.sl r q h none)
        | false => k (.se r)
  | .sg r q m z => match Nat.beq z size with
    | false => none
    | true => match Nat.ble h m with
      | false => none
      | true => match Nat.blt b m with
        | true => k (.sg r (Nat.add q (Nat.mul b size)) (Nat.sub h b) z)
        | false => match Nat.beq b 0 with
          | true => k (.sg r q h z)
          | false => k (.se r)
  | .se r => match Nat.ble h 0 with
    | false => none
    | true => k (.se r)
  | _ => none
theorem part_end {φ : Id → Option Plc} {r : Id} {g : Plc} (e1 : φ r = some g) (q c b d : Nat) : VR φ (.se r) (.slice (if c = b then (some ⟨g.1, q, none⟩ : Option Addr) else (some (⟨g.1, q, none⟩ : Addr)).map (·.add d)) 0 (c - b)) := by
  split
  · exact ⟨g, q, _, e1, rfl⟩
  · exact ⟨g, q + d, c - b, e1, by simp only [Option.map_some, add_lit]⟩
theorem partF_some {size : Nat} {a : AV} {b h : Nat} {k : AV → R} {x : AV × HP} (hb : b ≤ h) (hh : partF size a b h k = some x) :
    ∃ v, k v = some x ∧ ∀ φ s, VR φ a s → ∃ (ad : Option Addr) (len cap : Nat), s = .slice ad len cap ∧ h ≤ cap ∧ VR φ v (.slice (if cap = b then ad else ad.map (·.add (b * size))) (h - b) (cap - b)) := by
  unfold partF at hh
  split at hh
  · split at hh
    · rename_i h0
      have h0' : h ≤ 0 := Nat.le_of_ble_eq_true h0
      refine ⟨_, hh, fun φ s hs => ⟨none, 0, 0, hs, h0', ?_⟩⟩
      have : h = 0 := by omega
      have : b = 0 := by omega
      subst_vars
      rfl
    · cases hh
  · rename_i r q m c
    split at hh
    · cases hh
    rename_i h0
    have h0' : h ≤ c := Nat.le_of_ble_eq_true h0
    split at hh
    · rename_i h1
      have h1' : c = b := Nat.eq_of_beq_eq_true h1
      refine ⟨_, hh, fun φ s ⟨g, c', e1, e2, e3, e4⟩ => ⟨_, _, _, e2, by rw [e4 c rfl]; exact h0', ?_⟩⟩
      have := e4 c rfl
      subst this
      rw [if_pos h1']
      exact ⟨g, _, e1, rfl, Nat.sub_le_sub_right h0' _, fun _ h => by cases h; rfl⟩
    · rename_i h1
      refine ⟨_, hh, fun φ s ⟨g, c', e1, e2, e3, e4⟩ => ⟨_, _, _, e2, by rw [e4 c rfl]; exact h0', ?_⟩⟩
      have := e4 c rfl
      subst this
      have h1' : ¬ (c' = b) := fun e => by subst e; rw [Nat.beq_refl] at h1; cases h1
      rw [if_neg h1']
      exact ⟨g, _, e1, by simp only [Option.map_some, add_lit]; rfl, Nat.sub_le_sub_right h0' _, fun _ h => by cases h; rfl⟩
  · rename_i r q m
    split at hh
    · cases hh
    rename_i h0
    have h0' : h ≤ m := Nat.le_of_ble_eq_true h0
    split at hh
    · rename_i h1
      have h1' : b < m := by simpa [Nat.blt_eq] using h1
      refine ⟨_, hh, fun φ s ⟨g, c', e1, e2, e3, e4⟩ => ⟨_, _, _, e2, by omega, ?_⟩⟩
      rw [if_neg (by omega)]
      exact ⟨g, _, e1, by simp only [Option.map_some, add_lit]; rfl, Nat.sub_le_sub_right (by omega) _, fun _ h => by cases h⟩
    · split at hh
      · rename_i h1
        have h1' : b = 0 := Nat.eq_of_beq_eq_true h1
        subst h1'
        refine ⟨_, hh, fun φ s ⟨g, c', e1, e2, e3, e4⟩ => ⟨_, _, _, e2, by omega, ?_⟩⟩
        exact ⟨g, c', e1, by simp [add_lit], by omega, fun _ h => by cases h⟩
      · rename_i hq x0 hq0
        have h1' : ¬ b < m := fun e => by
          have e' : Nat.blt b m = true := by simpa [Nat.blt_eq] using e
          rw [e'] at hq
          cases hq
        have hz : h - b = 0 := by omega
        refine ⟨_, hh, fun φ s ⟨g, c', e1, e2, e3, e4⟩ => ⟨_, _, _, e2, by omega, ?_⟩⟩
        rw [hz]
        exact part_end e1 _ _ _ _
  · rename_i r q m z
    split at hh
    · cases hh
    rename_i hz
    have hz' : z = size := Nat.eq_of_beq_eq_true hz
    subst hz'
    split at hh
    · cases hh
    rename_i h0
    have h0' : h ≤ m := Nat.le_of_ble_eq_true h0
    split at hh
    · rename_i h1
      have h1' : b < m := by simpa [Nat.blt_eq] using h1
      refine ⟨_, hh, fun φ s ⟨g, c', e1, e2, e3, e4⟩ => ⟨_, _, _, e2, by omega, ?_⟩⟩
      rw [if_neg (by omega)]
      refine ⟨g, _, e1, by simp only [Option.map_some, add_lit]; rfl, Nat.sub_le_sub_right (by omega) _, ?_⟩
      show q + b * z + (c' - b) * z = g.2
      rw [← e4, Nat.add_assoc, ← Nat.add_mul]
      congr 2
      omega
    · split at hh
      · rename_i h1
        have h1' : b = 0 := Nat.eq_of_beq_eq_true h1
        subst h1'
        refine ⟨_, hh, fun φ s ⟨g, c', e1, e2, e3, e4⟩ => ⟨_, _, _, e2, by omega, ?_⟩⟩
        exact ⟨g, c', e1, by simp [add_lit], by omega, by simpa using e4⟩
      · rename_i hq x0 hq0
        have h1' : ¬ b < m := fun e => by
          have e' : Nat.blt b m = true := by simpa [Nat.blt_eq] using e
          rw [e'] at hq
          cases hq
        have hz : h - b = 0 := by omega
        refine ⟨_, hh, fun φ s ⟨g, c', e1, e2, e3, e4⟩ => ⟨_, _, _, e2, by omega, ?_⟩⟩
        rw [hz]
        exact part_end e1 _ _ _ _
  · rename_i r
    split at hh
    · cases hh
    rename_i h0
    have h0' : h ≤ 0 := Nat.le_of_ble_eq_true h0
    have hz : h - b = 0 := by omega
    refine ⟨_, hh, fun φ s ⟨g, o, c', e1, e2⟩ => ⟨_, _, _, e2, by omega, ?_⟩⟩
    rw [hz]
    exact part_end e1 _ _ _ _
  · cases hh
section
variable {P : Program} {G dt n : Nat} {ds : List (Option Nat)} {o : Oper}
end
noncomputable def aheadF (size : Nat) (a : AV) (b h : Nat) (hp : HP) (k : KV) (els : R) : R := match a with
  | .sg r q m z => match Nat.ble h m with
    | true => els
    | false => match Nat.beq z size with
      | false => none
      | true => match Nat.beq size 0 with
        | true => none
        | false => match Nat.blt b h with
          | false => none
          | true => hp.on fun mem _ => onRow mem r fun _ _ _ _ cells => match Nat.ble (Nat.add q (Nat.mul h size)) cells.len with
            | false => none
            | true => k (.sg r (Nat.add q (Nat.mul b size)) (Nat.sub h b) size) hp
  | _ => els
theorem aheadF_some {size : Nat} {a : AV} {b h : Nat} {hp : HP} {k : KV} {els : R} {x : AV × HP} (hh : aheadF size a b h hp k els = some x) : els = some x ∨
    ∃ v, k v hp = some x ∧ ∀ φ w s, RH φ hp w → VR φ a s → ∃ (ad : Option Addr) (len cap : Nat), s = .slice ad len cap ∧ h ≤ cap ∧ VR φ v (.slice (if cap = b then ad else ad.map (·.add (b * size))) (h - b) (cap - b)) := by
  unfold aheadF at hh
  split at hh
  · rename_i r q m z
    split at hh
    · exact .inl hh
    rename_i hm0
    split at hh
    · cases hh
    rename_i hz
    split at hh
    · cases hh
    rename_i hsz
    split at hh
    · cases hh
    rename_i hbh
    cases hp with
    | mk mem nx =>
    obtain ⟨t1, gr, fz, ro, cells, hm, h2⟩ := onRow_some (show onRow mem r _ = some x from hh)
    split at h2
    · cases h2
    rename_i hln
    have hz' : z = size := Nat.eq_of_beq_eq_true hz
    subst hz'
    have hln' : q + h * z ≤ cells.len := Nat.le_of_ble_eq_true hln
    have hpos : 0 < z := Nat.pos_of_ne_zero fun e => by rw [e] at hsz; cases hsz
    have hbh' : b < h := by simpa [Nat.blt_eq] using hbh
    refine .inr ⟨_, h2, fun φ w s hw ⟨g, c', e1, e2, e3, e4⟩ => ⟨_, _, _, e2, ?_⟩⟩
    obtain ⟨ca, l, rest, mk, f1, f2, f3, _, f5, f6⟩ := RW.row hw hm e1
    have hll : l.length = cells.len := VL.len f3
    have hlen : ca.size = l.length + rest.length := by rw [← Array.length_toList, f2, List.length_append]
    have hcap : h ≤ c' := by
      have h1 : h * z ≤ c' * z := by omega
      exact Nat.le_of_mul_le_mul_right h1 hpos
    refine ⟨hcap, ?_⟩
    rw [if_neg (by omega)]
    refine ⟨g, _, e1, by simp only [Option.map_some, add_lit]; rfl, Nat.sub_le_sub_right hcap _, ?_⟩
    show q + b * z + (c' - b) * z = g.2
    rw [← e4, Nat.add_assoc, ← Nat.add_mul]
    congr 2
    omega
  · exact .inl hh
section
variable {P : Program} {G dt n : Nat} {ds : List (Option Nat)} {o : Oper}
theorem sliceO_ok {t el : TypeId} {i : TypeInfo} {x : Operand} {low high : Option Operand} (ho : o.op = .slice t x low high none) (hu : P.underlying t = some (.slice el)) (hi : P.info? el = some i) :
    StillOk P G dt n ds o (fun e t0 hp k => sliceLen ((opd G dt n ds x).run e t0) fun m => boundR (high.map (opd G dt n ds)) m e t0 fun h => boundR (low.map (opd G dt n ds)) 0 e t0 fun b => match Nat.ble b h with
      | false => none
      | true => aheadF i.size ((opd G dt n ds x).run e t0) b h hp k (partF i.size ((opd G dt n ds x).run e t0) b h fun v => k v hp)) :=
  fun e t0 hp k r hr => by
    obtain ⟨m, h1, hm⟩ := sliceLen_some hr
    obtain ⟨h, h2, hh⟩ := boundR_some h1
    obtain ⟨b, h3, hb⟩ := boundR_some h2
    split at h3
    · cases h3
    rename_i c2
    have c2' : b ≤ h := Nat.le_of_ble_eq_true c2
    have fin : ∀ v, k v hp = some r → (∀ φ w s, RH φ hp w → VR φ ((opd G dt n ds x).run e t0) s → ∃ (ad : Option Addr) (len cap : Nat), s = .slice ad len cap ∧ h ≤ cap ∧ VR φ v (.slice (if cap = b then ad else ad.map (·.add (b * i.size))) (h - b) (cap - b))) →
        ∃ v, k v hp = some r ∧ ∀ φ (a : Act) w, Glo G φ → OpsR G dt n ds φ e t0 a.eval o.op → RH φ hp w → ∃ v', (execOp a.eval o).run P w = .ok (.value v') w ∧ VR φ v v' := by
      intro v h4 hv
      refine ⟨v, h4, fun φ a w _ hx hw => ?_⟩
      obtain ⟨ad, len, cap, e1, e2, e3⟩ := hv φ w _ hw (hx x (by rw [ho]; simp [Op.operands, Call.operands]))
      obtain ⟨b', c', e4⟩ := hm φ _ (hx x (by rw [ho]; simp [Op.operands, Call.operands]))
      have hml : m = len := by rw [e1] at e4; injection e4 with _ e4 _; exact e4.symm
      subst hml
      have hrun := bounds_run (P := P) (w := w) true (hb φ a.eval (fun y h => hx y (by rw [ho, h]; simp [Op.operands, Call.operands]))) (hh φ a.eval (fun y h => hx y (by rw [ho, h]; simp [Op.operands, Call.operands]))) e2 c2'
      refine ⟨_, ?_, e3⟩
      unfold execOp
      rw [ho]
      simp [Instr.sliceAt, Instr.slice, run_underlying hu, e1, hrun, sizeOf, typeInfo, hi]
    rcases aheadF_some h3 with h4 | ⟨v, h4, h5⟩
    · obtain ⟨v, h5, hv⟩ := partF_some c2' h4
      exact fin v h5 fun φ w s _ hs => hv φ s hs
    · exact fin v h4 h5
end
noncomputable def part3F (size : Nat) (a : AV) (b h mx : Nat) (k : AV → R) : R := match a with
  | .sn => match Nat.ble mx 0 with
    | true => k .sn
    | false => none
  | .sl r q m (some c) => match Nat.ble mx c with
    | false => none
    | true => match Nat.beq mx b with
      | true => k (.sl r q (Nat.sub h b) (some (Nat.sub mx b)))
      | false => k (.sl r (Nat.add q (Nat.mul b size)) (Nat.sub h b) (some (Nat.sub mx b)))
  | .sl r q m none => match Nat.ble mx m with
    | false => none
    | true => match Nat.beq mx b with
      | true => k (.sl r q (Nat.sub h b) (some (Nat.sub mx b)))
      | false => k (.sl r (Nat.add q (Nat.mul b size)) (Nat.sub h b) (some (Nat.sub mx b)))
  | .sg r q m z => match Nat.ble mx m with
    | false => none
    | true => match Nat.beq mx b with
      | true => k (.sl r q (Nat.sub h b) (some (Nat.sub mx b)))
      | false => k (.sl r (Nat.add q (Nat.mul b size)) (Nat.sub h b) (some (Nat.sub mx b)))
  | _ => none
theorem part3F_some {size : Nat} {a : AV} {b h mx : Nat} {k : AV → R} {x : AV × HP} (hb : b ≤ h) (hm : h ≤ mx) (hh : part3F size a b h mx k = some x) :
    ∃ v, k v = some x ∧ ∀ φ s, VR φ a s → ∃ (ad : Option Addr) (len cap : Nat), s = .slice ad len cap ∧ mx ≤ cap ∧ VR φ v (.slice (if mx = b then ad else ad.map (·.add (b * size))) (h - b) (mx - b)) := by
  have key : ∀ (r : Id) (q : Nat) (y : AV × HP), (match Nat.beq mx b with
      | true => k (.sl r q (Nat.sub h b) (some (Nat.sub mx b)))
      | false => k (.sl r (Nat.add q (Nat.mul b size)) (Nat.sub h b) (some (Nat.sub mx b)))) = some y →
      ∃ v, k v = some y ∧ ∀ φ g, φ r = some g → VR φ v (.slice (if mx = b then some ⟨g.1, q, none⟩ else (some (⟨g.1, q, none⟩ : Addr)).map (·.add (b * size))) (h - b) (mx - b)) := by
    intro r q y hy
    split at hy
    · rename_i h1
      have h1' : mx = b := Nat.eq_of_beq_eq_true h1
      refine ⟨_, hy, fun φ g e1 => ?_⟩
      rw [if_pos h1']
      exact ⟨g, _, e1, rfl, Nat.sub_le_sub_right hm _, fun _ h => by cases h; rfl⟩
    · rename_i h1
      have h1' : ¬ (mx = b) := fun e => by subst e; rw [Nat.beq_refl] at h1; cases h1
      refine ⟨_, hy, fun φ g e1 => ?_⟩
      rw [if_neg h1']
      exact ⟨g, _, e1, by simp only [Option.map_some, add_lit]; rfl, Nat.sub_le_sub_right hm _, fun _ h => by cases h; rfl⟩
  unfold part3F at hh
  split at hh
  · split at hh
    · rename_i h0
      have h0' : mx ≤ 0 := Nat.le_of_ble_eq_true h0
      refine ⟨_, hh, fun φ s hs => ⟨none, 0, 0, hs, h0', ?_⟩⟩
      have : mx = 0 := by omega
      have : h = 0 := by omega
      have : b = 0 := by omega
      subst_vars
      rfl
    · cases hh
  · rename_i r q m c
    split at hh
    · cases hh
    rename_i h0
    have h0' : mx ≤ c := Nat.le_of_ble_eq_true h0
    obtain ⟨v, hv, hs⟩ := key r q x hh
    exact ⟨v, hv, fun φ s ⟨g, c', e1, e2, e3, e4⟩ => ⟨_, _, _, e2, by rw [e4 c rfl]; exact h0', hs φ g e1⟩⟩
  · rename_i r q m
    split at hh
    · cases hh
    rename_i h0
    have h0' : mx ≤ m := Nat.le_of_ble_eq_true h0
    obtain ⟨v, hv, hs⟩ := key r q x hh
    exact ⟨v, hv, fun φ s ⟨g, c', e1, e2, e3, e4⟩ => ⟨_, _, _, e2, by omega, hs φ g e1⟩⟩
  · rename_i r q m z
    split at hh
    · cases hh
    rename_i h0
    have h0' : mx ≤ m := Nat.le_of_ble_eq_true h0
    obtain ⟨v, hv, hs⟩ := key r q x hh
    exact ⟨v, hv, fun φ s ⟨g, c', e1, e2, e3, e4⟩ => ⟨_, _, _, e2, by omega, hs φ g e1⟩⟩
  · cases hh
theorem bounds3_run {P : Program} {w : World} {len cap l h mx : Nat} {low : Option Value} {kh km : IntKind} (hl : BV low 0 l) (h0 : mx ≤ cap) (h1 : h ≤ mx) (h2 : l ≤ h) :
    (Instr.sliceBounds true len cap low (some (.int kh (h : Int))) (some (.int km (mx : Int)))).run P w = .ok (l, h, mx) w := by
  have e1 : ∀ kd code, (Instr.sliceBound (.int kd (mx : Int)) cap code).run P w = .ok mx w := fun kd code => by
    rw [run_sliceBound w kd mx cap code (by omega) (by omega)]; simp
  have e2 : ∀ kd code, (Instr.sliceBound (.int kd (h : Int)) mx code).run P w = .ok h w := fun kd code => by
    rw [run_sliceBound w kd h mx code (by omega) (by omega)]; simp
  have e3 : ∀ kd code, (Instr.sliceBound (.int kd (l : Int)) h code).run P w = .ok l w := fun kd code => by
    rw [run_sliceBound w kd l h code (by omega) (by omega)]; simp
  rcases hl with ⟨rfl, rfl⟩ | ⟨kl, rfl⟩ <;> simp [Instr.sliceBounds, e1, e2, e3]
section
variable {P : Program} {G dt n : Nat} {ds : List (Option Nat)} {o : Oper}
theorem sliceV3_ok {t el : TypeId} {i : TypeInfo} {x hi_ mx_ : Operand} {low : Option Operand} (ho : o.op = .slice t x low (some hi_) (some mx_)) (hu : P.underlying t = some (.slice el)) (hi : P.info? el = some i) :
    PureOk P G dt n ds o (fun e t0 hp k => boundR (some (opd G dt n ds hi_)) 0 e t0 fun h => boundR (some (opd G dt n ds mx_)) 0 e t0 fun mx => boundR (low.map (opd G dt n ds)) 0 e t0 fun b => match Nat.ble b h with
      | false => none
      | true => match Nat.ble h mx with
        | false => none
        | true => part3F i.size ((opd G dt n ds x).run e t0) b h mx fun v => k v hp) :=
  .pure fun e t0 hp k r hr => by
    obtain ⟨h, h2, hh⟩ := boundR_some (b := some hi_) hr
    obtain ⟨mx, h3, hmx⟩ := boundR_some (b := some mx_) h2
    obtain ⟨b, h4, hb⟩ := boundR_some h3
    split at h4
    · cases h4
    rename_i c1
    split at h4
    · cases h4
    rename_i c2
    have c1' : b ≤ h := Nat.le_of_ble_eq_true c1
    have c2' : h ≤ mx := Nat.le_of_ble_eq_true c2
    obtain ⟨v, h5, hv⟩ := part3F_some c1' c2' h4
    refine ⟨_, h5, fun φ a w hx => ?_⟩
    obtain ⟨ad, len, cap, e1, e2, e3⟩ := hv φ _ (hx x (by rw [ho]; simp [Op.operands, Call.operands]))
    have q1 := hh φ a.eval (fun y h => by cases h; exact hx hi_ (by rw [ho]; simp [Op.operands, Call.operands]))
    have q2 := hmx φ a.eval (fun y h => by cases h; exact hx mx_ (by rw [ho]; simp [Op.operands, Call.operands]))
    rcases q1 with ⟨q1, -⟩ | ⟨kh, q1⟩
    · cases q1
    rcases q2 with ⟨q2, -⟩ | ⟨km, q2⟩
    · cases q2
    have hrun := bounds3_run (P := P) (w := w) (len := len) (cap := cap) (kh := kh) (km := km) (hb φ a.eval (fun y h => hx y (by rw [ho, h]; simp [Op.operands, Call.operands]))) e2 c2' c1'
    simp only [Option.map_some, Option.some.injEq] at q1 q2
    refine ⟨_, ?_, e3⟩
    unfold execOp
    rw [ho]
    simp [Instr.sliceAt, Instr.slice, run_underlying hu, e1, q1, q2, hrun, sizeOf, typeInfo, hi]
end
end Go.Proofs.YtphifhbgigaeoaaGreatDoor.Clo
end
section
namespace Go.Proofs.YtphifhbgigaeoaaGreatDoor.Clo
open Go.RowKit
set_option linter.unusedVariables false
set_option linter.unusedSimpArgs false
noncomputable def madeA (z : AV) (m : Nat) : AV :=
  Nat.rec (motive := fun _ => AV) .nil (fun _ y => z.app y) m
theorem made_list (z : Array Value) : ∀ m, (madeCells z (m * z.size)).toList = (List.replicate m z.toList).flatten
  | 0 => by simp [madeCells]
  | m + 1 => by
    have ih := made_list z m
    rw [List.replicate_succ, List.flatten_cons, ← ih]
    unfold madeCells
    apply List.ext_getElem?
    intro j
    by_cases hz : z.size = 0
    · simp [hz]
    rw [Array.toList_map, Array.toList_map, List.getElem?_append]
    simp only [List.getElem?_map, Array.toList_range, Array.length_toList]
    have hp : 0 < z.size := Nat.pos_of_ne_zero hz
    have e : (m + 1) * z.size = m * z.size + z.size := by rw [Nat.add_mul, Nat.one_mul]
    split
    · rename_i hj
      rw [List.getElem?_range (by omega), Array.getElem?_toList, Array.getElem?_eq_getElem hj]
      simp [Nat.mod_eq_of_lt hj, hj]
    · rename_i hj
      by_cases hj2 : j < (m + 1) * z.size
      · rw [List.getElem?_range hj2, List.getElem?_range (by omega)]
        simp only [Option.map_some]
        rw [← Nat.mod_eq_sub_mod (by omega)]
      · rw [List.getElem?_eq_none (by simp; omega), List.getElem?_eq_none (by simp; omega)]
theorem madeA_ok {φ : Id → Option Plc} {z : AV} {l : List Value} (h : VL φ z l) : ∀ m, VL φ (madeA z m) (List.replicate m l).flatten
  | 0 => rfl
  | m + 1 => by
    rw [List.replicate_succ, List.flatten_cons]
    exact VL.app h (madeA_ok h m)
section
variable {P : Program} {G dt n : Nat} {ds : List (Option Nat)} {o : Oper}
theorem makeSlice_ok {t el : TypeId} {x y : Operand} {i : TypeInfo} {z : Value} {zc : AV} (ho : o.op = .makeSlice t x y) (hu : P.underlying t = some (.slice el)) (hi : P.info? el = some i) (hz : i.zero = some z) (hzs : z.cells.size = i.size) (hzc : (ofConst z).cellsO = some zc) :
    MakeOk P G dt n ds o (fun e t0 hp k => ((opd G dt n ds x).run e t0).on_i fun _ l => onNat l fun l => ((opd G dt n ds y).run e t0).on_i fun _ c => onNat c fun c => match Nat.ble l c with
      | false => none
      | true => match Nat.ble (Nat.mul i.bytes c) 281474976710656 with
        | false => none
        | true => match Nat.ble c 16777216 with
          | false => none
          | true => newF el (madeA zc c) hp fun r hp => k (.sl r 0 l (some c)) hp) := by
  intro e t0 hp k r hr
  obtain ⟨kl, l, hl, h1⟩ := AV.on_i_some hr
  obtain ⟨l, rfl, h2⟩ := onNat_some h1
  obtain ⟨kc, c, hc, h3⟩ := AV.on_i_some h2
  obtain ⟨c, rfl, h4⟩ := onNat_some h3
  split at h4
  · cases h4
  rename_i c1
  split at h4
  · cases h4
  rename_i c2
  split at h4
  · cases h4
  rename_i c3
  have c1' : l ≤ c := Nat.le_of_ble_eq_true c1
  have c2' : i.bytes * c ≤ 281474976710656 := Nat.le_of_ble_eq_true c2
  have c3' : c ≤ 16777216 := Nat.le_of_ble_eq_true c3
  obtain ⟨m, nx, e', hlast, h5⟩ := newF_some h4
  refine ⟨m, nx, _, _, e', hlast, rfl, h5, fun φ a w g1 hx => ?_⟩
  have e1 : a.eval x = .int kl (l : Int) := by have := (hx x (by rw [ho]; simp [Op.operands, Call.operands])); rw [hl] at this; exact this
  have e2 : a.eval y = .int kc (c : Int) := by have := (hx y (by rw [ho]; simp [Op.operands, Call.operands])); rw [hc] at this; exact this
  obtain ⟨h7, _⟩ := AV.cellsO_ok hzc (ofConst_ok φ z)
  have hrun := run_make (P := P) w t el i z hu hi hz kl kc l c (by omega) (by omega) (by have h := Int.ofNat_le.2 c2'; rw [Int.natCast_mul] at h; exact h) (by omega)
  rw [Int.toNat_natCast, Int.toNat_natCast] at hrun
  have hcs : VL φ (madeA zc c) (madeCells z.cells (c * i.size)).toList := by
    rw [← hzs, made_list]
    exact madeA_ok h7 c
  refine ⟨.slice (some ⟨w.heap.size, 0, none⟩) l c, _, _, _, ?_, .alloc _ _, row_says hcs, fun ψ _ hn => ⟨_, c, hn, rfl, c1', fun _ h => by cases h; rfl⟩⟩
  unfold execOp
  simp only [ho, e1, e2, Sem.run_bind, hrun, Result.andThen_ok]
  rfl
theorem cap_ok {t el : TypeId} {x : Operand} (ho : o.op = .call { callee := .builtin .cap, args := #[x], argTypes := #[t] }) (hu : P.underlying t = some (.slice el)) :
    PureOk P G dt n ds o (fun e t0 hp k => match (opd G dt n ds x).run e t0 with
      | .sn => k (.i .i64 0) hp
      | .sl _ _ _ (some c) => k (.i .i64 (Int.ofNat c)) hp
      | _ => none) :=
  .pure fun e t0 hp k r hr => by
    have key : ∃ c, k (.i .i64 (Int.ofNat c)) hp = some r ∧ ∀ φ v, VR φ ((opd G dt n ds x).run e t0) v → ∃ b m, v = .slice b m c := by
      split at hr
      · rename_i h
        exact ⟨0, hr, fun φ v hv => by rw [h] at hv; exact ⟨none, 0, hv⟩⟩
      · rename_i r' q m c h
        refine ⟨c, hr, fun φ v hv => ?_⟩
        rw [h] at hv
        obtain ⟨g, c', _, e, _, e'⟩ := hv
        exact ⟨_, _, by rw [e, e' c rfl]⟩
      · cases hr
    obtain ⟨c, h1, h2⟩ := key
    refine ⟨_, h1, fun φ a w hx => ⟨.int .i64 (c : Int), ?_, rfl⟩⟩
    obtain ⟨b, m, e1⟩ := h2 φ _ ((hx x (by rw [ho]; simp [Op.operands, Call.operands])))
    unfold execOp
    rw [ho]
    simp [resolve, invoke, builtin, Builtin.cap_, e1, run_underlying hu, goInt]
theorem convInt_ok {s t : TypeId} {x : Operand} {kd : IntKind} {d : TypeDesc} (ho : o.op = .convert s t x) (hs : P.underlying s = some d) (ht : P.underlying t = some (.int kd)) :
    PureOk P G dt n ds o (fun e t0 hp k => ((opd G dt n ds x).run e t0).on_i fun _ j => k (.i kd (kd.wrap j)) hp) :=
  .pure fun e t0 hp k r hr => by
    obtain ⟨k0, j, hj, h1⟩ := AV.on_i_some hr
    refine ⟨_, h1, fun φ a w hx => ⟨.int kd (kd.wrap j), ?_, rfl⟩⟩
    have e1 : a.eval x = .int k0 j := by have := (hx x (by rw [ho]; simp [Op.operands, Call.operands])); rw [hj] at this; exact this
    unfold execOp
    rw [ho]
    simp [convert, run_underlying hs, run_underlying ht, Conv.intToInt, e1]
end
end Go.Proofs.YtphifhbgigaeoaaGreatDoor.Clo
end
section
namespace Go.Proofs.YtphifhbgigaeoaaGreatDoor.Clo
open Go.RowKit
set_option linter.unusedVariables false
set_option linter.unusedSimpArgs false
noncomputable def bytesK (m : Nat) : AV → (List Nat → R) → R :=
  Nat.rec (motive := fun _ => AV → (List Nat → R) → R) (fun _ k => k []) (fun _ ih l k => match l with
    | .cons (.i .u8 j) r => onNat j fun b => match Nat.blt b 256 with
      | true => ih r fun y => k (b :: y)
      | false => none
    | _ => none) m
theorem bytesK_some : ∀ (m : Nat) {l : AV} {k : List Nat → R} {x : AV × HP}, bytesK m l k = some x → ∃ ns, k ns = some x ∧ ns.length = m ∧ B256 ns ∧ ∀ φ vs, VL φ l vs → vs.take m = ns.map (fun b : Nat => Value.int .u8 (b : Int))
  | 0, l, k, x, h => ⟨[], h, rfl, (fun _ h => by cases h), fun _ _ _ => by simp⟩
  | m + 1, l, k, x, h => by
    have h' : (match (generalizing := false) l with
      | .cons (.i .u8 j) r => onNat j fun b => match Nat.blt b 256 with
        | true => bytesK m r fun y => k (b :: y)
        | false => none
      | _ => none : R) = some x := h
    split at h'
    · rename_i j r
      obtain ⟨b, rfl, h1⟩ := onNat_some h'
      split at h1
      · rename_i hb
        have hb' : b < 256 := by simpa [Nat.blt_eq] using hb
        obtain ⟨ns, h2, h3, h4, h5⟩ := bytesK_some m h1
        refine ⟨b :: ns, h2, by rw [List.length_cons, h3], fun y hy => ?_, fun φ vs hv => ?_⟩
        · rcases List.mem_cons.1 hy with rfl | hy
          · exact hb'
          · exact h4 y hy
        · obtain ⟨v, vs', e, h6, h7⟩ := hv
          have e2 : v = .int .u8 (b : Int) := h6
          subst e e2
          rw [List.take_succ_cons, h5 φ vs' h7, List.map_cons]
      · cases h1
    · cases h'
noncomputable def textF (a : AV) (hp : HP) (k : List Nat → R) : R := match a with
  | .sn => k []
  | .sl r q m _ => hp.on fun mem _ => onRow mem r fun _ _ _ _ cells => bytesK m (cells.drop q) k
  | .sg r q m _ => hp.on fun mem _ => onRow mem r fun _ _ _ _ cells => bytesK m (cells.drop q) k
  | _ => none
theorem fold_bytes : ∀ (ns : List Nat) (s : ByteArray), (ns.map fun b : Nat => (b : Int)).foldl (fun r (n : Int) => r.push (UInt8.ofNat n.toNat)) s = s ++ bytesOf ns
  | [], s => by
    apply ByteArray.ext
    simp [bytesOf]
  | b :: ns, s => by
    rw [List.map_cons, List.foldl_cons, fold_bytes ns]
    apply ByteArray.ext
    simp [bytesOf, ByteArray.push]
section
variable {P : Program} {G dt n : Nat} {ds : List (Option Nat)} {o : Oper}
theorem textF_some {a : AV} {hp : HP} {k : List Nat → R} {x : AV × HP} (h : textF a hp k = some x) : ∃ ns, k ns = some x ∧ B256 ns ∧ ∀ φ w s, RH φ hp w → VR φ a s → ∃ (ad : Option Addr) (m c : Nat), s = .slice ad m c ∧ (∀ b, ad = some b → (loadCells b m).run P w = .ok (ns.map (fun b : Nat => Value.int .u8 (b : Int))).toArray w) ∧ (ad = none → ns = []) := by
  have row : ∀ r q m, (hp.on fun mem _ => onRow mem r fun _ _ _ _ cells => bytesK m (cells.drop q) k : R) = some x → ∃ ns, k ns = some x ∧ B256 ns ∧ ∀ φ w (g : Plc), RH φ hp w → φ r = some g → (loadCells ⟨g.1, q, none⟩ m).run P w = .ok (ns.map (fun b : Nat => Value.int .u8 (b : Int))).toArray w := by
    intro r q m hh
    cases hp with
    | mk mem nx =>
    obtain ⟨t, gr, fz, ro, cells, hm, h2⟩ := onRow_some (show onRow mem r _ = some x from hh)
    obtain ⟨ns, h3, h4, h5, h6⟩ := bytesK_some m h2
    refine ⟨ns, h3, h5, fun φ w g hw hg => ?_⟩
    obtain ⟨ca, l, rest, mk, e1, e2, e3, _⟩ := RW.row hw hm hg
    have e4 := h6 φ _ (VL.drop q e3)
    rw [← e4]
    have hlen : ((l.drop q).take m).length = m := by rw [e4, List.length_map, h4]
    have := run_loadCells_list (P := P) (w := w) ⟨g.1, q, none⟩ ((l.drop q).take m) (fun j v hv => by
      rw [add_lit]
      refine cell_row e1 e2 ?_
      rw [List.getElem?_take] at hv
      split at hv
      · rw [List.getElem?_drop] at hv; exact hv
      · cases hv)
    rw [hlen] at this
    exact this
  unfold textF at h
  split at h
  · exact ⟨[], h, (fun _ h => by cases h), fun φ w s _ hs => ⟨none, 0, 0, hs, (fun _ h => by cases h), fun _ => rfl⟩⟩
  · rename_i r q m c
    obtain ⟨ns, h1, h2, h3⟩ := row r q m h
    refine ⟨ns, h1, h2, fun φ w s hw ⟨g, c', e1, e2, _⟩ => ⟨_, _, _, e2, fun b hb => ?_, fun h => by cases h⟩⟩
    cases hb
    exact h3 φ w g hw e1
  · rename_i r q m c
    obtain ⟨ns, h1, h2, h3⟩ := row r q m h
    refine ⟨ns, h1, h2, fun φ w s hw ⟨g, c', e1, e2, _⟩ => ⟨_, _, _, e2, fun b hb => ?_, fun h => by cases h⟩⟩
    cases hb
    exact h3 φ w g hw e1
  · cases h
theorem convText_ok {s t el : TypeId} {x : Operand} (ho : o.op = .convert s t x) (hs : P.underlying s = some (.slice el)) (he : P.underlying el = some (.int .u8)) (ht : P.underlying t = some .string) :
    StillOk P G dt n ds o (fun e t0 hp k => textF ((opd G dt n ds x).run e t0) hp fun ns => k (.s ns) hp) :=
  fun e t0 hp k r hr => by
    obtain ⟨ns, h1, h2, h3⟩ := textF_some (P := P) hr
    refine ⟨_, h1, fun φ a w _ hx hw => ⟨.string (bytesOf ns), ?_, rfl, h2⟩⟩
    obtain ⟨ad, m, c, e1, e2, e3⟩ := h3 φ w _ hw ((hx x (by rw [ho]; simp [Op.operands, Call.operands])))
    have hrun : (convert s t (.slice ad m c)).run P w = .ok (.string (bytesOf ns)) w := by
      rw [run_convert_bytes_string w s t el ad m c hs he ht]
      cases ad with
      | none =>
        have := e3 rfl
        subst this
        rfl
      | some b =>
        have hl := e2 b rfl
        have := run_bytesToString (P := P) w b m c (ns.map fun b : Nat => (b : Int)) (by rw [hl, List.map_map]; rfl)
        rw [this, fold_bytes]
        congr 2
    unfold execOp
    simp only [ho, e1, Sem.run_bind, hrun, Result.andThen_ok]
    rfl
end
end Go.Proofs.YtphifhbgigaeoaaGreatDoor.Clo
end
section
namespace Go.Proofs.YtphifhbgigaeoaaGreatDoor.Clo
open Go.RowKit
set_option linter.unusedVariables false
set_option linter.unusedSimpArgs false
noncomputable def overF (r : Id) (q len : Nat) (y : AV) (hp : HP) (k : HP → R) : R :=
  hp.on fun mem nx => onRow mem r fun t gr fz ro cells => match ro with
    | true => none
    | false => match okF fz q with
      | false => none
      | true => match Nat.ble (Nat.add q len) cells.len with
        | false => none
        | true => k (.mk (mem.set r (.row t gr fz false (y.setMany q cells))) nx)
noncomputable def copyN (size : Nat) (r : Id) (q : Nat) (n : Nat) (y : AV) (hp : HP) (k : KV) : R :=
  overF r q (Nat.mul n size) y hp fun hp => k (.i .i64 (Int.ofNat n)) hp
noncomputable def copyF (size : Nat) (d s : AV) (hp : HP) (k : KV) : R := anySl d fun r q m => match s with
  | .sl r2 q2 m2 _ => rowF size r2 q2 (bif Nat.ble m2 m then m2 else m) hp fun n y => copyN size r q n y hp k
  | .sg r2 q2 m2 _ => rowF size r2 q2 (bif Nat.ble m2 m then m2 else m) hp fun n y => copyN size r q n y hp k
  | .s l => match Nat.beq size 1 with
    | false => none
    | true => match Nat.ble (lenL l) m with
      | false => none
      | true => copyN size r q (lenL l) (bytesA l) hp k
  | _ => none
section
variable {P : Program} {G dt n : Nat} {ds : List (Option Nat)} {o : Oper}
theorem overF_some {r : Id} {q len : Nat} {y : AV} {hp : HP} {k : HP → R} {x : AV × HP} (h : overF r q len y hp k = some x) : ∃ hp', k hp' = some x ∧ ∀ φ B w (g : Plc) (vs : List Value), WH φ B hp w → φ r = some g → VL φ y vs → vs.length = len → (∀ v ∈ vs, v.oneCell' = true) →
    ∃ w', (storeCells ⟨g.1, q, none⟩ vs).run P w = .ok () w' ∧ StH φ hp w φ hp' w' ∧ WH φ B hp' w' := by
  cases hp with
  | mk mem nx =>
  obtain ⟨t1, gr, fz, ro, cells, hm, h2⟩ := onRow_some (show onRow mem r _ = some x from h)
  cases ro with
  | true => cases h2
  | false =>
  simp only at h2
  split at h2
  · cases h2
  rename_i hfz
  split at h2
  · cases h2
  rename_i hln
  have hfz' : okF fz q = true := hfz
  have hln' : q + len ≤ cells.len := Nat.le_of_ble_eq_true hln
  refine ⟨_, h2, fun φ B w g vs hw hg hy hl h1 => ?_⟩
  obtain ⟨s1, s2, s3⟩ := WR.store (P := P) hw hm hg hy (o := q) (by omega) hfz' h1
  exact ⟨_, s1, s3, s2⟩
theorem rowF_some (P : Program) {size : Nat} {r : Id} {q m : Nat} {hp : HP} {k : Nat → AV → R} {x : AV × HP} (hh : rowF size r q m hp k = some x) : ∃ y, k m y = some x ∧ ∀ φ B w (g : Plc), WH φ B hp w → φ r = some g →
    ∃ vs : List Value, VL φ y vs ∧ vs.length = m * size ∧ (∀ j v, vs[j]? = some v → w.cell? ((⟨g.1, q, none⟩ : Addr).add j) = some v) ∧ ∀ u ∈ vs, u.oneCell' = true := by
  cases hp with
  | mk mem nx =>
  obtain ⟨t, gr, fz, ro, cells, hm, h2⟩ := onRow_some (show onRow mem r _ = some x from hh)
  cases ht : (cells.drop q).takeO (Nat.mul m size) with
  | none => simp only [ht] at h2; cases h2
  | some y =>
    simp only [ht] at h2
    split at h2
    · rename_i ho
      refine ⟨y, h2, fun φ B w g hw hg => ?_⟩
      obtain ⟨vs, e1, e2, e3⟩ := seg_ok P hw hm hg ht
      exact ⟨vs, e1, e2, e3, AV.allOne_ok ho e1⟩
    · cases h2
theorem copyN_ok {dT sT ty el : TypeId} {i : TypeInfo} (hu : P.underlying dT = some (.slice el)) (hi : P.info? el = some i) {r : Id} {q nn : Nat} {y : AV} {hp : HP} {k : KV} {x : AV × HP} (h : copyN i.size r q nn y hp k = some x) :
    ∃ v hp', k v hp' = some x ∧ ∀ φ B w (g : Plc) (m c ls : Nat) (src : Value) (vs : List Value), WH φ B hp w → φ r = some g → VL φ y vs → vs.length = nn * i.size → (∀ v ∈ vs, v.oneCell' = true) → (Builtin.lenOf src).run P w = .ok ls w → Nat.min ls m = nn → (Builtin.firstCells i.size nn src).run P w = .ok vs.toArray w →
      ∃ v' w', (Builtin.copy_ #[dT, sT] ty #[.slice (some ⟨g.1, q, none⟩) m c, src]).run P w = .ok v' w' ∧ VR φ v v' ∧ StH φ hp w φ hp' w' ∧ WH φ B hp' w' := by
  obtain ⟨hp', h1, h2⟩ := overF_some (P := P) h
  refine ⟨_, hp', h1, fun φ B w g m c ls src vs hw hg hy hl ho hls hmin hf => ?_⟩
  obtain ⟨w', e1, e2, e3⟩ := h2 φ B w g vs hw hg hy hl ho
  refine ⟨.int .i64 (nn : Int), w', ?_, rfl, e2, e3⟩
  simp [Builtin.copy_, run_underlying hu, hls, hmin, sizeOf, typeInfo, hi, hf, e1, goInt]
theorem copy_ok {s x : Operand} {dT sT el : TypeId} {i : TypeInfo} (ho : o.op = .call { callee := .builtin .copy, args := #[x, s], argTypes := #[dT, sT] }) (hu : P.underlying dT = some (.slice el)) (hi : P.info? el = some i) :
    ValOk P G dt n ds o (fun E t0 hp k => copyF i.size ((opd G dt n ds x).run E t0) ((opd G dt n ds s).run E t0) hp k) := by
  intro E t0 hp k rr hr
  obtain ⟨r, q, m, h1, hd⟩ := anySl_some hr
  have fin : ∀ (v : AV) (hp' : HP), k v hp' = some rr → (∀ φ B w (g : Plc) (c : Nat) (src : Value), WH φ B hp w → φ r = some g → VR φ ((opd G dt n ds s).run E t0) src →
      ∃ v' w', (Builtin.copy_ #[dT, sT] o.type #[.slice (some ⟨g.1, q, none⟩) m c, src]).run P w = .ok v' w' ∧ VR φ v v' ∧ StH φ hp w φ hp' w' ∧ WH φ B hp' w') →
      ∃ v hp', k v hp' = some rr ∧ ∀ φ B (a : Act) w, Glo G φ → OpsR G dt n ds φ E t0 a.eval o.op → WH φ B hp w →
        ∃ ψ v' w', ((execOp a.eval o).run P w = .ok (.value v') w' ∨ ((execOp a.eval o).run P w = .ok .skip w' ∧ v' = undef)) ∧ VR ψ v v' ∧ StH φ hp w ψ hp' w' ∧ WH ψ B hp' w' := by
    intro v hp' hk hall
    refine ⟨v, hp', hk, fun φ B a w g1 hx hw => ?_⟩
    obtain ⟨g, c, hg, e1, _⟩ := hd φ _ ((hx x (by rw [ho]; simp [Op.operands, Call.operands])))
    obtain ⟨v', w', e2, e3, e4, e5⟩ := hall φ B w g c (a.eval s) hw hg ((hx s (by rw [ho]; simp [Op.operands, Call.operands])))
    refine ⟨φ, v', w', .inl ?_, e3, e4, e5⟩
    unfold execOp
    simp only [ho, resolve, invoke, builtin, Sem.run_bind, Sem.run_pure, Result.andThen_ok, List.map_toArray, List.map_cons, List.map_nil, e1, e2]
  have mins : ∀ a b : Nat, Nat.min a b = (bif Nat.ble a b then a else b) := fun a b => by
    cases h : Nat.ble a b with
    | true => exact Nat.min_eq_left (Nat.le_of_ble_eq_true h)
    | false => exact Nat.min_eq_right (Nat.le_of_lt (Nat.lt_of_not_le fun hle => by have := Nat.ble_eq_true_of_le hle; rw [h] at this; cases this))
  split at h1
  · rename_i r2 q2 m2 c2 hs
    obtain ⟨y, h2, h3⟩ := rowF_some P h1
    obtain ⟨v, hp', h4, h5⟩ := copyN_ok (P := P) (sT := sT) (ty := o.type) hu hi h2
    refine fin v hp' h4 fun φ B w g c src hw hg hsrc => ?_
    rw [hs] at hsrc
    obtain ⟨g2, c', e1, e2, _⟩ := hsrc
    subst e2
    obtain ⟨vs, f1, f2, f3, f4⟩ := h3 φ B w g2 hw e1
    exact h5 φ B w g m c m2 _ vs hw hg f1 f2 f4 rfl (mins _ _) (run_firstCells_some w i.size _ _ m2 c' vs f2 f3)
  · rename_i r2 q2 m2 c2 hs
    obtain ⟨y, h2, h3⟩ := rowF_some P h1
    obtain ⟨v, hp', h4, h5⟩ := copyN_ok (P := P) (sT := sT) (ty := o.type) hu hi h2
    refine fin v hp' h4 fun φ B w g c src hw hg hsrc => ?_
    rw [hs] at hsrc
    obtain ⟨g2, c', e1, e2, _⟩ := hsrc
    subst e2
    obtain ⟨vs, f1, f2, f3, f4⟩ := h3 φ B w g2 hw e1
    exact h5 φ B w g m c m2 _ vs hw hg f1 f2 f4 rfl (mins _ _) (run_firstCells_some w i.size _ _ m2 c' vs f2 f3)
  · rename_i l hs
    split at h1
    · cases h1
    rename_i hsz
    split at h1
    · cases h1
    rename_i hle
    have hsz' : i.size = 1 := Nat.eq_of_beq_eq_true hsz
    have hle' : lenL l ≤ m := Nat.le_of_ble_eq_true hle
    obtain ⟨v, hp', h4, h5⟩ := copyN_ok (P := P) (sT := sT) (ty := o.type) hu hi h1
    refine fin v hp' h4 fun φ B w g c src hw hg hsrc => ?_
    rw [hs] at hsrc
    obtain ⟨e1, b1⟩ := hsrc
    subst e1
    have hz : (bytesOf l).size = lenL l := by rw [bytes_size, lenL_eq]
    refine h5 φ B w g m c (lenL l) _ (byteCells (bytesOf l)) hw hg (bytesA_ok b1) (by rw [byteCells_length, hz, hsz', Nat.mul_one]) (fun u hu => ?_) (by rw [← hz]; rfl) (Nat.min_eq_left hle') (by rw [hsz', ← hz]; exact firstCells_string _ w)
    obtain ⟨_, _, rfl⟩ := List.mem_map.1 hu
    rfl
  · cases h1
noncomputable def clearN (size : Nat) (z : AV) (r : Id) (q m : Nat) (hp : HP) (k : KV) : R := match Nat.beq m 0 with
  | true => k (.tu .nil) hp
  | false => match (madeA z m).allOne with
    | true => overF r q (Nat.mul m size) (madeA z m) hp fun hp => k (.tu .nil) hp
    | false => none
noncomputable def clearF (size : Nat) (z a : AV) (hp : HP) (k : KV) : R := match a with
  | .sn => k (.tu .nil) hp
  | .se _ => k (.tu .nil) hp
  | .sl r q m _ => clearN size z r q m hp k
  | .sg r q m _ => clearN size z r q m hp k
  | _ => none
theorem zero_made (z : Array Value) (n : Nat) : (Builtin.zeroCells z n).toList = (List.replicate n z.toList).flatten := by
  rw [← made_list]
  rfl
theorem clear_ok {x : Operand} {t el : TypeId} {i : TypeInfo} {z : Value} {zc : AV} (ho : o.op = .call { callee := .builtin .clear, args := #[x], argTypes := #[t] }) (hu : P.underlying t = some (.slice el)) (hi : P.info? el = some i) (hz : i.zero = some z) (hzs : z.cells.size = i.size) (hzc : (ofConst z).cellsO = some zc) :
    ValOk P G dt n ds o (fun E t0 hp k => clearF i.size zc ((opd G dt n ds x).run E t0) hp k) := by
  intro E t0 hp k rr hr
  have fin : ∀ (hp' : HP), k (.tu .nil) hp' = some rr → (∀ φ B w (s : Value), WH φ B hp w → VR φ ((opd G dt n ds x).run E t0) s →
      ∃ w', (Builtin.clear_ #[t] o.type #[s]).run P w = .ok (.tuple #[]) w' ∧ StH φ hp w φ hp' w' ∧ WH φ B hp' w') →
      ∃ v hp', k v hp' = some rr ∧ ∀ φ B (a : Act) w, Glo G φ → OpsR G dt n ds φ E t0 a.eval o.op → WH φ B hp w →
        ∃ ψ v' w', ((execOp a.eval o).run P w = .ok (.value v') w' ∨ ((execOp a.eval o).run P w = .ok .skip w' ∧ v' = undef)) ∧ VR ψ v v' ∧ StH φ hp w ψ hp' w' ∧ WH ψ B hp' w' := by
    intro hp' hk hall
    refine ⟨_, hp', hk, fun φ B a w g1 hx hw => ?_⟩
    obtain ⟨w', e2, e4, e5⟩ := hall φ B w (a.eval x) hw (hx x (by rw [ho]; simp [Op.operands, Call.operands]))
    refine ⟨φ, .tuple #[], w', .inl ?_, ⟨#[], rfl, rfl⟩, e4, e5⟩
    unfold execOp
    simp only [ho, resolve, invoke, builtin, Sem.run_bind, Sem.run_pure, Result.andThen_ok, List.map_toArray, List.map_cons, List.map_nil, e2]
  have none' : ∀ (ad : Option Addr) (c : Nat) w, (Builtin.clear_ #[t] o.type #[.slice ad 0 c]).run P w = .ok (.tuple #[]) w := fun ad c w => by
    cases ad <;> simp [Builtin.clear_, run_underlying hu]
  have row : ∀ r q m, clearN i.size zc r q m hp k = some rr → ∃ hp', k (.tu .nil) hp' = some rr ∧ ∀ φ B w (g : Plc) c, WH φ B hp w → φ r = some g →
      ∃ w', (Builtin.clear_ #[t] o.type #[.slice (some ⟨g.1, q, none⟩) m c]).run P w = .ok (.tuple #[]) w' ∧ StH φ hp w φ hp' w' ∧ WH φ B hp' w' := by
    intro r q m hh
    unfold clearN at hh
    split at hh
    · rename_i hm
      have hm' := Nat.eq_of_beq_eq_true hm
      subst hm'
      exact ⟨hp, hh, fun φ B w g c hw hg => ⟨w, none' _ _ _, Step.refl, hw⟩⟩
    · rename_i hm
      split at hh
      · rename_i hone
        obtain ⟨hp', h1, h2⟩ := overF_some (P := P) hh
        refine ⟨hp', h1, fun φ B w g c hw hg => ?_⟩
        obtain ⟨h7, _⟩ := AV.cellsO_ok hzc (ofConst_ok φ z)
        have hcs : VL φ (madeA zc m) (Builtin.zeroCells z.cells m).toList := by rw [zero_made]; exact madeA_ok h7 m
        obtain ⟨w', e1, e2, e3⟩ := h2 φ B w g _ hw hg hcs (by rw [Array.length_toList, size_zeroCells, hzs]; rfl) (AV.allOne_ok hone hcs)
        refine ⟨w', ?_, e2, e3⟩
        have hm0 : m ≠ 0 := fun e => by subst e; cases hm
        obtain ⟨m', rfl⟩ := Nat.exists_eq_succ_of_ne_zero hm0
        simp [Builtin.clear_, run_underlying hu, zeroValue, typeInfo, program, Sem.run, hi, hz, e1]
      · cases hh
  have hr : clearF i.size zc ((opd G dt n ds x).run E t0) hp k = some rr := hr
  unfold clearF at hr
  split at hr
  · rename_i hs
    exact fin hp hr fun φ B w s hw hv => by
      rw [hs] at hv
      have hv' : s = .slice none 0 0 := hv
      subst hv'
      exact ⟨w, none' _ _ _, Step.refl, hw⟩
  · rename_i r hs
    exact fin hp hr fun φ B w s hw hv => by
      rw [hs] at hv
      obtain ⟨g, o', c, _, rfl⟩ := hv
      exact ⟨w, none' _ _ _, Step.refl, hw⟩
  · rename_i r q m c hs
    obtain ⟨hp', h1, h2⟩ := row r q m hr
    exact fin hp' h1 fun φ B w s hw hv => by
      rw [hs] at hv
      obtain ⟨g, c', hg, rfl, _⟩ := hv
      exact h2 φ B w g c' hw hg
  · rename_i r q m c hs
    obtain ⟨hp', h1, h2⟩ := row r q m hr
    exact fin hp' h1 fun φ B w s hw hv => by
      rw [hs] at hv
      obtain ⟨g, c', hg, rfl, _⟩ := hv
      exact h2 φ B w g c' hw hg
  · cases hr
end
end Go.Proofs.YtphifhbgigaeoaaGreatDoor.Clo
end
section
namespace Go.Proofs.YtphifhbgigaeoaaGreatDoor.Clo
open Go.RowKit
set_option linter.unusedVariables false
set_option linter.unusedSimpArgs false
section
variable {P : Program} {G dt n : Nat} {ds : List (Option Nat)} {o : Oper}
theorem min_ok {x y : Operand} {ts : Array TypeId} (ho : o.op = .call { callee := .builtin .min, args := #[x, y], argTypes := ts }) :
    PureOk P G dt n ds o (fun e t0 hp k => ((opd G dt n ds x).run e t0).on_i fun kd i => ((opd G dt n ds y).run e t0).on_i fun _ j => match decide (j < i) with
      | true => k (.i kd j) hp
      | false => k (.i kd i) hp) :=
  .pure fun e t0 hp k r hr => by
    obtain ⟨kd, i, hi, h1⟩ := AV.on_i_some hr
    obtain ⟨kd', j, hj, h2⟩ := AV.on_i_some h1
    have key : k (.i kd (if j < i then j else i)) hp = some r := by
      split at h2
      · rename_i h; rw [if_pos (of_decide_eq_true h)]; exact h2
      · rename_i h; rw [if_neg (of_decide_eq_false h)]; exact h2
    refine ⟨_, key, fun φ a w hx => ⟨_, ?_, rfl⟩⟩
    have e1 : a.eval x = .int kd i := by have := (hx x (by rw [ho]; simp [Op.operands, Call.operands])); rw [hi] at this; exact this
    have e2 : a.eval y = .int kd' j := by have := (hx y (by rw [ho]; simp [Op.operands, Call.operands])); rw [hj] at this; exact this
    unfold execOp
    simp only [ho, resolve, invoke, builtin, Sem.run_bind, Sem.run_pure, Result.andThen_ok, List.map_toArray, List.map_cons, List.map_nil, e1, e2, run_min_int2]
theorem max_ok {x y : Operand} {ts : Array TypeId} (ho : o.op = .call { callee := .builtin .max, args := #[x, y], argTypes := ts }) :
    PureOk P G dt n ds o (fun e t0 hp k => ((opd G dt n ds x).run e t0).on_i fun kd i => ((opd G dt n ds y).run e t0).on_i fun _ j => match decide (j > i) with
      | true => k (.i kd j) hp
      | false => k (.i kd i) hp) :=
  .pure fun e t0 hp k r hr => by
    obtain ⟨kd, i, hi, h1⟩ := AV.on_i_some hr
    obtain ⟨kd', j, hj, h2⟩ := AV.on_i_some h1
    have key : k (.i kd (if j > i then j else i)) hp = some r := by
      split at h2
      · rename_i h; rw [if_pos (of_decide_eq_true h)]; exact h2
      · rename_i h; rw [if_neg (of_decide_eq_false h)]; exact h2
    refine ⟨_, key, fun φ a w hx => ⟨_, ?_, rfl⟩⟩
    have e1 : a.eval x = .int kd i := by have := (hx x (by rw [ho]; simp [Op.operands, Call.operands])); rw [hi] at this; exact this
    have e2 : a.eval y = .int kd' j := by have := (hx y (by rw [ho]; simp [Op.operands, Call.operands])); rw [hj] at this; exact this
    unfold execOp
    simp only [ho, resolve, invoke, builtin, Sem.run_bind, Sem.run_pure, Result.andThen_ok, List.map_toArray, List.map_cons, List.map_nil, e1, e2, run_max_int2]
theorem min3_ok {x y z : Operand} {ts : Array TypeId} (ho : o.op = .call { callee := .builtin .min, args := #[x, y, z], argTypes := ts }) :
    PureOk P G dt n ds o (fun e t0 hp k => ((opd G dt n ds x).run e t0).on_i fun kd i => ((opd G dt n ds y).run e t0).on_i fun _ j => ((opd G dt n ds z).run e t0).on_i fun _ l => match decide (j < i) with
      | true => (match decide (l < j) with
        | true => k (.i kd l) hp
        | false => k (.i kd j) hp)
      | false => (match decide (l < i) with
        | true => k (.i kd l) hp
        | false => k (.i kd i) hp)) :=
  .pure fun e t0 hp k r hr => by
    obtain ⟨kd, i, hi, h1⟩ := AV.on_i_some hr
    obtain ⟨kd', j, hj, h2⟩ := AV.on_i_some h1
    obtain ⟨kd2, l, hl, h3⟩ := AV.on_i_some h2
    have key : k (.i kd (if l < (if j < i then j else i) then l else (if j < i then j else i))) hp = some r := by
      split at h3
      · rename_i h
        rw [if_pos (of_decide_eq_true h)]
        split at h3
        · rename_i h; rw [if_pos (of_decide_eq_true h)]; exact h3
        · rename_i h; rw [if_neg (of_decide_eq_false h)]; exact h3
      · rename_i h
        rw [if_neg (of_decide_eq_false h)]
        split at h3
        · rename_i h; rw [if_pos (of_decide_eq_true h)]; exact h3
        · rename_i h; rw [if_neg (of_decide_eq_false h)]; exact h3
    refine ⟨_, key, fun φ a w hx => ⟨_, ?_, rfl⟩⟩
    have e1 : a.eval x = .int kd i := by have := (hx x (by rw [ho]; simp [Op.operands, Call.operands])); rw [hi] at this; exact this
    have e2 : a.eval y = .int kd' j := by have := (hx y (by rw [ho]; simp [Op.operands, Call.operands])); rw [hj] at this; exact this
    have e3 : a.eval z = .int kd2 l := by have := (hx z (by rw [ho]; simp [Op.operands, Call.operands])); rw [hl] at this; exact this
    unfold execOp
    simp only [ho, resolve, invoke, builtin, Sem.run_bind, Sem.run_pure, Result.andThen_ok, List.map_toArray, List.map_cons, List.map_nil, e1, e2, e3]
    simp [Builtin.min_, Builtin.min2, Result.andThen]
theorem max3_ok {x y z : Operand} {ts : Array TypeId} (ho : o.op = .call { callee := .builtin .max, args := #[x, y, z], argTypes := ts }) :
    PureOk P G dt n ds o (fun e t0 hp k => ((opd G dt n ds x).run e t0).on_i fun kd i => ((opd G dt n ds y).run e t0).on_i fun _ j => ((opd G dt n ds z).run e t0).on_i fun _ l => match decide (j > i) with
      | true => (match decide (l > j) with
        | true => k (.i kd l) hp
        | false => k (.i kd j) hp)
      | false => (match decide (l > i) with
        | true => k (.i kd l) hp
        | false => k (.i kd i) hp)) :=
  .pure fun e t0 hp k r hr => by
    obtain ⟨kd, i, hi, h1⟩ := AV.on_i_some hr
    obtain ⟨kd', j, hj, h2⟩ := AV.on_i_some h1
    obtain ⟨kd2, l, hl, h3⟩ := AV.on_i_some h2
    have key : k (.i kd (if l > (if j > i then j else i) then l else (if j > i then j else i))) hp = some r := by
      split at h3
      · rename_i h
        rw [if_pos (of_decide_eq_true h)]
        split at h3
        · rename_i h; rw [if_pos (of_decide_eq_true h)]; exact h3
        · rename_i h; rw [if_neg (of_decide_eq_false h)]; exact h3
      · rename_i h
        rw [if_neg (of_decide_eq_false h)]
        split at h3
        · rename_i h; rw [if_pos (of_decide_eq_true h)]; exact h3
        · rename_i h; rw [if_neg (of_decide_eq_false h)]; exact h3
    refine ⟨_, key, fun φ a w hx => ⟨_, ?_, rfl⟩⟩
    have e1 : a.eval x = .int kd i := by have := (hx x (by rw [ho]; simp [Op.operands, Call.operands])); rw [hi] at this; exact this
    have e2 : a.eval y = .int kd' j := by have := (hx y (by rw [ho]; simp [Op.operands, Call.operands])); rw [hj] at this; exact this
    have e3 : a.eval z = .int kd2 l := by have := (hx z (by rw [ho]; simp [Op.operands, Call.operands])); rw [hl] at this; exact this
    unfold execOp
    simp only [ho, resolve, invoke, builtin, Sem.run_bind, Sem.run_pure, Result.andThen_ok, List.map_toArray, List.map_cons, List.map_nil, e1, e2, e3]
    simp [Builtin.max_, Builtin.max2, Result.andThen]
theorem assert_ok {x : Operand} {xT t : TypeId} {d : TypeDesc} (ho : o.op = .typeAssert x xT t false) (hu : P.underlying t = some d) (hd : ∀ m, d ≠ .interface m) :
    PureOk P G dt n ds o (fun e t0 hp k => match (opd G dt n ds x).run e t0 with
      | .ifc t' v => match Nat.beq t' t with
        | true => k v hp
        | false => none
      | _ => none) :=
  .pure fun e t0 hp k r hr => by
    split at hr
    · rename_i t' v h
      split at hr
      · rename_i ht
        have ht' := Nat.eq_of_beq_eq_true ht
        subst ht'
        refine ⟨_, hr, fun φ a w hx => ?_⟩
        have hv := (hx x (by rw [ho]; simp [Op.operands, Call.operands]))
        rw [h] at hv
        obtain ⟨v', e1, e2⟩ := hv
        refine ⟨v', ?_, e2⟩
        unfold execOp
        rw [ho]
        cases d <;> first | (exact absurd rfl (hd _)) | simp [Instr.typeAssert, run_underlying hu, e1]
      · cases hr
    · cases hr
theorem sliceP_ok {t el : TypeId} {len : Nat} {i : TypeInfo} {x : Operand} {low high : Option Operand} (ho : o.op = .slice t x low high none) (hu : P.underlying t = some (.array len el)) (hi : P.info? el = some i) :
    PureOk P G dt n ds o (fun e t0 hp k => ((opd G dt n ds x).run e t0).on_p fun r q => boundR (high.map (opd G dt n ds)) len e t0 fun h => boundR (low.map (opd G dt n ds)) 0 e t0 fun b => match Nat.ble b h with
      | false => none
      | true => match Nat.ble h len with
        | false => none
        | true => match Nat.beq len b with
          | true => k (.sl r q (Nat.sub h b) (some (Nat.sub len b))) hp
          | false => k (.sl r (Nat.add q (Nat.mul b i.size)) (Nat.sub h b) (some (Nat.sub len b))) hp) :=
  .pure fun e t0 hp k r hr => by
    obtain ⟨b0, q, hb0, h1⟩ := AV.on_p_some hr
    obtain ⟨h, h2, hh⟩ := boundR_some h1
    obtain ⟨b, h3, hb⟩ := boundR_some h2
    split at h3
    · cases h3
    rename_i c1
    split at h3
    · cases h3
    rename_i c2
    have c1' : b ≤ h := Nat.le_of_ble_eq_true c1
    have c2' : h ≤ len := Nat.le_of_ble_eq_true c2
    have key : k (.sl b0 (if len = b then q else q + b * i.size) (h - b) (some (len - b))) hp = some r := by
      split at h3
      · rename_i c3
        rw [if_pos (Nat.eq_of_beq_eq_true c3)]; exact h3
      · rename_i c3
        rw [if_neg (fun e => by subst e; rw [Nat.beq_refl] at c3; cases c3)]; exact h3
    refine ⟨_, key, fun φ a w hx => ?_⟩
    obtain ⟨g, hg, e1⟩ : ∃ g, φ b0 = some g ∧ a.eval x = .pointer (some ⟨g.1, q, none⟩) := by have := (hx x (by rw [ho]; simp [Op.operands, Call.operands])); rw [hb0] at this; exact this
    have hrun := bounds_run (P := P) (w := w) false (hb φ a.eval (fun y h => hx y (by rw [ho, h]; simp [Op.operands, Call.operands]))) (hh φ a.eval (fun y h => hx y (by rw [ho, h]; simp [Op.operands, Call.operands]))) c2' c1'
    refine ⟨.slice (some ⟨g.1, if len = b then q else q + b * i.size, none⟩) (h - b) (len - b), ?_, g, _, hg, rfl, Nat.sub_le_sub_right c2' _, fun _ h => by cases h; rfl⟩
    unfold execOp
    rw [ho]
    by_cases c3 : len = b
    · subst c3
      simp [Instr.sliceAt, run_underlying hu, Instr.sureAddr, e1, hrun, sizeOf, typeInfo, hi]
    · simp [Instr.sliceAt, run_underlying hu, Instr.sureAddr, e1, hrun, sizeOf, typeInfo, hi, c3, add_lit]
end
end Go.Proofs.YtphifhbgigaeoaaGreatDoor.Clo
end
section
namespace Go.Proofs.YtphifhbgigaeoaaGreatDoor.Clo
open Go.RowKit
set_option linter.unusedVariables false
set_option linter.unusedSimpArgs false
noncomputable def newB (x : Blk) (hp : HP) (k : Id → HP → R) : R :=
  hp.on fun m nx => match last nx with
    | true => none
    | false => k nx (.mk (m.set nx x) (inc nx))
theorem newB_some {x : Blk} {hp : HP} {k : Id → HP → R} {r : AV × HP} (h : newB x hp k = some r) : ∃ m nx, hp = .mk m nx ∧ last nx = false ∧ k nx (.mk (m.set nx x) (inc nx)) = some r := by
  cases hp with
  | mk m nx =>
  have h' : (match last nx with | true => none | false => k nx (.mk (m.set nx x) (inc nx)) : R) = some r := h
  cases hl : last nx with
  | true => rw [hl] at h'; cases h'
  | false => rw [hl] at h'; exact ⟨m, nx, rfl, hl, h'⟩
section
variable {P : Program} {G dt n : Nat} {ds : List (Option Nat)} {o : Oper}
theorem makeMap_ok {t : TypeId} (ho : o.op = .makeMap t none) :
    MakeOk P G dt n ds o (fun e t0 hp k => newB (.tab .nil) hp fun r hp => k (.mp r) hp) := by
  intro e t0 hp k r hr
  obtain ⟨m, nx, e', hl, h1⟩ := newB_some hr
  refine ⟨m, nx, _, _, e', hl, rfl, h1, fun φ a w g1 g2 => ?_⟩
  refine ⟨.map (some w.heap.size), .map #[] 0, 0, _, ?_, .alloc _ _, ⟨#[], 0, rfl, rfl⟩, fun ψ _ hn => ⟨_, hn, rfl⟩⟩
  unfold execOp
  rw [ho]
  rfl
theorem rangeS_ok {t : TypeId} {x : Operand} (ho : o.op = .range t x) (hu : P.underlying t = some .string) :
    MakeOk P G dt n ds o (fun e t0 hp k => ((opd G dt n ds x).run e t0).on_s fun l => newB (.iter l 0) hp fun r hp => k (.p r 0) hp) := by
  intro e t0 hp k r hr
  obtain ⟨l, hl, h0⟩ := AV.on_s_some hr
  obtain ⟨m, nx, e', hlast, h1⟩ := newB_some h0
  refine ⟨m, nx, _, _, e', hlast, rfl, h1, fun φ a w g1 g2 => ?_⟩
  have hx := g2 x (by rw [ho]; simp [Op.operands, Call.operands])
  rw [hl] at hx
  have e1 : a.eval x = .string (bytesOf l) := hx.1
  refine ⟨.pointer (some ⟨w.heap.size, 0, none⟩), .stringIter (bytesOf l) 0, 0, _, ?_, .alloc _ _, rfl, fun ψ _ hn => ⟨_, hn, rfl⟩⟩
  unfold execOp
  rw [ho]
  simp [Instr.range, run_underlying hu, e1]
end
end Go.Proofs.YtphifhbgigaeoaaGreatDoor.Clo
end
section
namespace Go.Proofs.YtphifhbgigaeoaaGreatDoor.Clo
open Go.RowKit
set_option linter.unusedVariables false
set_option linter.unusedSimpArgs false
noncomputable def onIter (m : Mem) (r : Id) (k : List Nat → Nat → R) : R :=
  Option.rec (motive := fun _ => R) none (fun b => Blk.rec (motive := fun _ => R) (fun _ _ _ _ _ => none) (fun _ => none) k b) (m.get r)
theorem onIter_some {m : Mem} {r : Id} {k : List Nat → Nat → R} {x : AV × HP} (h : onIter m r k = some x) : ∃ l p, m.get r = some (.iter l p) ∧ k l p = some x := by
  unfold onIter at h
  cases e : m.get r with
  | none => rw [e] at h; cases h
  | some b =>
    rw [e] at h
    cases b with
    | row t gr fz ro cells => cases h
    | tab l => cases h
    | iter s p => exact ⟨s, p, rfl, h⟩
section
variable {P : Program} {G dt n : Nat} {ds : List (Option Nat)} {o : Oper}
theorem nextS_ok {x : Operand} (ho : o.op = .next x true) :
    ValOk P G dt n ds o (fun e t0 hp k => ((opd G dt n ds x).run e t0).on_p fun r q => match Nat.beq q 0 with
      | false => none
      | true => hp.on fun mem nx => onIter mem r fun l p => match Nat.blt p (lenL l) with
        | false => k (.tu (.cons (.b false) .nil)) (.mk mem nx)
        | true => nthR p l fun b => match Nat.blt b 128 with
          | false => none
          | true => k (.tu (.cons (.b true) (.cons (.i .i64 (Int.ofNat p)) (.cons (.i .i32 (Int.ofNat b)) .nil)))) (.mk (mem.set r (.iter l (Nat.add p 1))) nx)) := by
  intro e t0 hp k rr hr
  obtain ⟨r, q, hq, h1⟩ := AV.on_p_some hr
  split at h1
  · cases h1
  rename_i hq0
  have hq0' : q = 0 := Nat.eq_of_beq_eq_true hq0
  subst hq0'
  cases hp with
  | mk mem nx =>
  obtain ⟨l, p, hm, h2⟩ := onIter_some (show onIter mem r _ = some rr from h1)
  have eqs : ∀ φ B (a : Act) w, Glo G φ → OpsR G dt n ds φ e t0 a.eval o.op → WH φ B (.mk mem nx) w → ∃ g : Plc, φ r = some g ∧ a.eval x = .pointer (some ⟨g.1, 0, none⟩) ∧ w.heap[g.1]? = some (.stringIter (bytesOf l) p) := by
    intro φ B a w g1 g2 hw
    have hx := g2 x (by rw [ho]; simp [Op.operands, Call.operands])
    rw [hq] at hx
    obtain ⟨g, hg, e1⟩ := hx
    obtain ⟨ob, h3, h4⟩ := (show WR φ B mem nx w from hw).blk r _ g hm hg
    have h4' : ob = .stringIter (bytesOf l) p := h4
    subst h4'
    exact ⟨g, hg, e1, h3⟩
  split at h2
  · rename_i hlt
    refine ⟨_, _, h2, fun φ B a w g1 g2 hw => ?_⟩
    obtain ⟨g, hg, e1, e2⟩ := eqs φ B a w g1 g2 hw
    have hn : ¬ (p < (bytesOf l).size) := by
      rw [bytes_size, ← lenL_eq]
      intro h
      have hb : Nat.blt p (lenL l) = true := by rw [Nat.blt_eq]; exact h
      rw [hb] at hlt
      cases hlt
    refine ⟨φ, .tuple #[.bool false], w, .inl ?_, ⟨_, rfl, _, _, rfl, rfl, rfl⟩, Step.refl, hw⟩
    unfold execOp
    rw [ho]
    simp [e1, Instr.next, getObj, Sem.run, e2, hn]
  · rename_i hlt
    obtain ⟨b, hb, h3⟩ := nthR_some p h2
    split at h3
    · cases h3
    rename_i hb8
    have hb8' : b < 128 := by simpa [Nat.blt_eq] using hb8
    refine ⟨_, _, h3, fun φ B a w g1 g2 hw => ?_⟩
    obtain ⟨g, hg, e1, e2⟩ := eqs φ B a w g1 g2 hw
    have hp : p < (bytesOf l).size := by
      rw [bytes_size]
      exact (List.getElem?_eq_some_iff.1 hb).1
    have hgb : (bytesOf l)[p]'hp = UInt8.ofNat b := by
      have := bytes_get l p
      rw [hb, getElem?_pos (bytesOf l) p hp] at this
      exact Option.some.inj this
    have hto : ((bytesOf l)[p]'hp).toNat = b := by
      rw [hgb, UInt8.toNat_ofNat']
      exact Nat.mod_eq_of_lt (by omega)
    have hdec : Utf8.decode (bytesOf l) p = (b, 1) := by
      rw [decode_ascii (bytesOf l) p hp (by rw [hto]; exact hb8'), hto]
    have hgs : g.1 < w.heap.size := (show WR φ B mem nx w from hw).lt r g hg
    obtain ⟨s1, s2⟩ := (show WR φ B mem nx w from hw).put (w' := { w with heap := w.heap.setIfInBounds g.1 (.stringIter (bytesOf l) (p + 1)) }) (y := .iter l (p + 1)) (o := .stringIter (bytesOf l) (p + 1)) hm rfl rfl hg rfl rfl rfl (by simp)
      (fun k hk => by simp [Array.getElem?_setIfInBounds, Ne.symm hk]) (by simp [Array.getElem?_setIfInBounds, hgs]) rfl
    refine ⟨φ, .tuple #[.bool true, .int .i64 (p : Int), .int .i32 (b : Int)], _, .inl ?_, ⟨_, rfl, _, _, rfl, rfl, _, _, rfl, rfl, _, _, rfl, rfl, rfl⟩, s2, s1⟩
    unfold execOp
    rw [ho]
    simp [e1, Instr.next, getObj, setObj, Sem.run, e2, hp, hdec, goInt]
end
end Go.Proofs.YtphifhbgigaeoaaGreatDoor.Clo
end
