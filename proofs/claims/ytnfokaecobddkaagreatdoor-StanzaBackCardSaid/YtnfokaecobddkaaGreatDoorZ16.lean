/- Part 16 of a proof laid in parts, one behind the other; no condition of its own. -/
import Derived.Test.YtnfokaecobddkaaGreatDoorZ15
import Derived.Laws.StructEq
import Derived.Test.YtnfokaecobddkaaGreatDoorZ14
import Derived.Test.YtnfokaecobddkaaGreatDoorZ02
import Derived.Test.YtnfokaecobddkaaGreatDoorZ03
import Derived.Test.YtnfokaecobddkaaGreatDoorZ06
import Derived.WalkMore
import Derived.Test.YtnfokaecobddkaaGreatDoorZ07
import Derived.Test.YtnfokaecobddkaaGreatDoorZ13
set_option linter.all false
section
namespace Go.Proofs.YtnfokaecobddkaaGreatDoor
open Go.RowKit
set_option linter.unusedSimpArgs false
set_option linter.unusedVariables false
def mn (x : Nat) : Int := min (x : Int) 20000
theorem mn_bd (x : Nat) : 0 ≤ mn x ∧ mn x ≤ 20000 := by unfold mn; omega
theorem mn_le {x : Nat} (h : mn x ≤ 2000) : x ≤ 2000 := by unfold mn at h; omega
def SmallN (n : NodeL) : Prop := n.space.size ≤ 2000 ∧ n.name.size ≤ 2000 ∧ n.text.size ≤ 2000 ∧ n.attrs.length ≤ 30 ∧ ∀ (i : Nat) (a : AttrL), i < n.attrs.length → n.attrs[i]? = some a → SzA 2000 a
section
variable {ops : Array Oper} {w0 : World} {Fin : List Ty → Prop} {rest : List Oper} {E : Env} {Ts : List Ty} {o : Oper}
theorem tw_ixN0 {x y : Operand} {b off n c k : Nat} (hk : k < n) (hop : o.op = .indexAddr 30 x y) (hx : evalE E x = some (.slice (some ⟨b, off, none⟩) n c)) (hy : evalE E y = some (.int .i64 (k : Int))) (hw : Wd ops o E true)
    (hr : wpT Tryz.prog ops w0 Fin rest (E.put o.dst (.inl (.pointer (some ⟨b, off + k * 6, none⟩)))) (.inl (.pointer (some ⟨b, off + k * 6, none⟩)) :: Ts)) : wpT Tryz.prog ops w0 Fin (o :: rest) E Ts :=
  tw_pure _ hw (fun a W hW hs => by
    have h1 : a.eval x = _ := evalE_of hx (by rw [hop]; simp [Op.operands]) hs
    have h2 : a.eval y = _ := evalE_of hy (by rw [hop]; simp [Op.operands]) hs
    unfold execOp
    simp only [hop, h1, h2]
    go_simp) hr
theorem tw_min20 {x : Operand} (m : Nat) (hop : o.op = .call { callee := .builtin .min, args := #[x, .const (.int .i64 20000)], argTypes := #[3, 3] }) (hx : evalE E x = some (.int .i64 (m : Int))) (hw : Wd ops o E true)
    (hr : wpT Tryz.prog ops w0 Fin rest (E.put o.dst (.inl (.int .i64 (mn m)))) (.inl (.int .i64 (mn m)) :: Ts)) : wpT Tryz.prog ops w0 Fin (o :: rest) E Ts :=
  tw_pure _ hw (fun a W hW hs => by
    have h1 : a.eval x = .int .i64 (m : Int) := evalE_of hx (by rw [hop]; simp [Op.operands, Call.operands]) hs
    have h2 : a.eval (.const (.int .i64 20000)) = .int .i64 20000 := rfl
    unfold execOp mn
    simp only [hop, resolve, invoke, builtin, Sem.run_bind, Sem.run_pure, Result.andThen_ok, List.map_toArray, List.map_cons, List.map_nil, h1, h2]
    go_simp
    first | done | omega | (split <;> omega)) hr
theorem tw_addI {x y : Operand} {p q : Int} (hb : -9000000000000000000 ≤ p + q ∧ p + q ≤ 9000000000000000000) (hop : o.op = .binOp .add 3 x y 3) (hx : evalE E x = some (.int .i64 p)) (hy : evalE E y = some (.int .i64 q)) (hw : Wd ops o E true)
    (hr : wpT Tryz.prog ops w0 Fin rest (E.put o.dst (.inl (.int .i64 (p + q)))) (.inl (.int .i64 (p + q)) :: Ts)) : wpT Tryz.prog ops w0 Fin (o :: rest) E Ts :=
  tw_pure _ hw (fun a W hW hs => by
    have h1 : a.eval x = _ := evalE_of hx (by rw [hop]; simp [Op.operands]) hs
    have h2 : a.eval y = _ := evalE_of hy (by rw [hop]; simp [Op.operands]) hs
    unfold execOp
    simp only [hop, h1, h2]
    go_simp
    have hwr : IntKind.wrap .i64 (p + q) = p + q := by simp only [IntKind.wrap, IntKind.bits, IntKind.signed]; simp; split <;> omega
    rw [hwr]) hr
end
def GreatPost (v : List NodeL) (w : World) (e : Ending) (w' : World) : Prop :=
  ∃ g, e = .returned (.bool g) ∧ Below w.heap.size w w' ∧ (g = false → v.length ≤ 60 ∧ ∀ (i : Nat) (n : NodeL), i < v.length → v[i]? = some n → SmallN n)
theorem GreatPost.yes {v : List NodeL} {w w' : World} (h : Below w.heap.size w w') : GreatPost v w (.returned (.bool true)) w' := ⟨true, rfl, h, fun h => by cases h⟩
theorem GreatPost.no {v : List NodeL} {w w' : World} (h : Below w.heap.size w w') (h1 : v.length ≤ 60) (h2 : ∀ (i : Nat) (n : NodeL), i < v.length → v[i]? = some n → SmallN n) : GreatPost v w (.returned (.bool false)) w' := ⟨false, rfl, h, fun _ => ⟨h1, h2⟩⟩
set_option maxHeartbeats 16000000 in
set_option maxRecDepth 10000 in
theorem great_any (v : List NodeL) (A : Option Addr) (c : Nat) (w : World) (hr : RdV w w.heap.size A v) :
    Calls Tryz.prog 12 #[.slice A v.length c, .int .i64 60, .int .i64 2000] w (GreatPost v w) := by
  have HR := Lib.hid hr
  clear hr
  go_enter Tryz.func12, Tryz.ntmps12
  go_wp2
  go_loopw [7, 8, 9, 10] (fun s7 s8 _ _ wr => ∃ (k : Nat) (t : Int), (k ≤ v.length ∧ k ≤ 600) ∧ s7 = .int .i64 t ∧ s8 = .int .i64 k ∧ (0 ≤ t ∧ t ≤ k * 2000000) ∧ Hid (Below w.heap.size w wr) ∧ Hid (t ≤ 2000 → ∀ (i : Nat) (n : NodeL), i < k → v[i]? = some n → SmallN n)) (fun _ s8 _ _ _ => v.length - (intOf s8).toNat)
  case atStart => exact ⟨0, 0, ⟨Nat.zero_le _, Nat.zero_le _⟩, rfl, rfl, ⟨by omega, by omega⟩, Lib.hid (Below.refl _ _), Lib.hid (fun _ i n hi => absurd hi (by omega))⟩
  case round =>
    obtain ⟨k, t, ⟨hk, hk6⟩, rfl, rfl, ⟨ht0, ht1⟩, HB, HN⟩ := hrel
    by_cases hlt : k < v.length
    · by_cases h600 : k < 600
      · obtain ⟨n, hnn⟩ : ∃ n, v[k]? = some n := ⟨_, List.getElem?_eq_getElem hlt⟩
        have HNN := Lib.hid hnn
        obtain ⟨b, off, rfl, hb, hc⟩ := (HR.out.below HB.out (Nat.le_refl _)) (by omega)
        obtain ⟨d0, d1, d2, ⟨A3, c3, d3, hl3, hA3⟩, d4, d5⟩ := hc k n hnn
        have HA3 := Lib.hid (hA3.more HB.out.size)
        have hbr := Nat.lt_of_lt_of_le hb HB.out.size
        clear hc hnn d0 d5 hA3
        have G1 := Lib.hid (fun W (hW : Ext wr.drew W) => ((ext_below hW).cell (p := ⟨b, off + k * 6 + 1, none⟩) hbr).trans d1)
        have G2 := Lib.hid (fun W (hW : Ext wr.drew W) => ((ext_below hW).cell (p := ⟨b, off + k * 6 + 2, none⟩) hbr).trans d2)
        have G4 := Lib.hid (fun W (hW : Ext wr.drew W) => ((ext_below hW).cell (p := ⟨b, off + k * 6 + 4, none⟩) hbr).trans d4)
        have D3 := Lib.hid d3
        clear d1 d2 d3 d4
        have m1 := mn_bd n.name.size
        have m2 := mn_bd n.space.size
        have m3 := mn_bd n.text.size
        go_wp2
        refine wp_region_typed rfl (by kernel_rfl) (by kernel_rfl) ?_
        repeat (first | refine tw_ixN0 hlt rfl rfl rfl (by first | exact wd_none rfl | exact wd_yes rfl rfl rfl) ?_ | refine tw_ldS rfl rfl G1.out (by first | exact wd_none rfl | exact wd_yes rfl rfl rfl) ?_ | refine tw_ldS rfl rfl G2.out (by first | exact wd_none rfl | exact wd_yes rfl rfl rfl) ?_ | refine tw_ldS rfl rfl G4.out (by first | exact wd_none rfl | exact wd_yes rfl rfl rfl) ?_ | refine tw_lens rfl rfl (by first | exact wd_none rfl | exact wd_yes rfl rfl rfl) ?_ | refine tw_min20 _ rfl rfl (by first | exact wd_none rfl | exact wd_yes rfl rfl rfl) ?_ | refine tw_addI (by omega) rfl rfl rfl (by first | exact wd_none rfl | exact wd_yes rfl rfl rfl) ?_ | refine tw_skip (wd_no rfl rfl rfl) ?_ | refine tw_mv (.inl rfl) rfl (by first | exact wd_none rfl | exact wd_yes rfl rfl rfl) ?_ | refine tw_mv (.inr rfl) rfl (by first | exact wd_none rfl | exact wd_yes rfl rfl rfl) ?_ | refine tw_pickL rfl rfl rfl (by first | exact wd_none rfl | exact wd_yes rfl rfl rfl) ?_ | refine tw_op1 _ rfl rfl (by first | exact wd_none rfl | exact wd_yes rfl rfl rfl) (fun ρ W hW h1 => by simp only [execOp, h1]; go_simp; first | done | rfl) ?_ | refine tw_op2 _ rfl rfl rfl (by first | exact wd_none rfl | exact wd_yes rfl rfl rfl) (fun ρ W hW h1 h2 => by simp only [execOp, h1, h2]; go_simp; first | done | rfl) ?_)
        dsimp only [wpT, List.reverse, List.reverseAux, FinT]
        intro W7 hW7 _
        simp only [Act.put, List.setIfInBounds_toArray, List.set_cons_zero, List.set_cons_succ]
        have hb7 : Below wr.heap.size wr W7 := ext_below hW7
        have HB7 := Lib.hid (HB.out.trans (hb7.mono HB.out.size))
        have d3 := (hb7.cell (p := ⟨b, off + k * 6 + 3, none⟩) hbr).trans D3.out
        have HA7 := Lib.hid ((HA3.out.below hb7 (Nat.le_refl _)).more hb7.size)
        have hb77 := Nat.lt_of_lt_of_le hbr hb7.size
        clear hW7 hb7 G1 G2 G4 D3 HA3
        obtain ⟨t1, ht1'⟩ : ∃ t1, t1 = t + mn n.name.size + mn n.space.size + mn n.text.size := ⟨_, rfl⟩
        have HT1 := Lib.hid ht1'
        have q1 : 0 ≤ t1 ∧ t ≤ t1 ∧ t1 ≤ k * 2000000 + 60000 := by omega
        rw [← ht1']
        clear ht1'
        by_cases h30 : 30 < n.attrs.length
        · have h30i : (30 : Int) < (n.attrs.length : Int) := by omega
          go_wp2
          go_ret
          exact GreatPost.yes HB7.out
        · have h30i : ¬ (30 : Int) < (n.attrs.length : Int) := by omega
          by_cases h2k : 2000 < t1
          · go_wp2
            go_ret
            exact GreatPost.yes HB7.out
          · have hsm : n.space.size ≤ 2000 ∧ n.name.size ≤ 2000 ∧ n.text.size ≤ 2000 := by
              have := HT1.out
              exact ⟨mn_le (by omega), mn_le (by omega), mn_le (by omega)⟩
            clear m1 m2 m3
            go_wp2
            go_loopw [7, 9, 10] (fun s7 s9 _ wi => ∃ (j : Nat) (t2 : Int), j ≤ n.attrs.length ∧ s7 = .int .i64 t2 ∧ s9 = .int .i64 j ∧ (t1 ≤ t2 ∧ t2 ≤ t1 + j * 60000) ∧ Hid (Below W7.heap.size W7 wi) ∧ Hid (t2 ≤ 2000 → ∀ (i : Nat) (a : AttrL), i < j → n.attrs[i]? = some a → SzA 2000 a)) (fun _ s9 _ _ => n.attrs.length - (intOf s9).toNat)
            case atStart => exact ⟨0, t1, Nat.zero_le _, rfl, rfl, ⟨by omega, by omega⟩, Lib.hid (Below.refl _ _), Lib.hid (fun _ i a hi => absurd hi (by omega))⟩
            case round =>
              obtain ⟨j, t2, hj, rfl, rfl, ⟨hu0, hu1⟩, HBI, HNI⟩ := hrel
              have e3 := (HBI.out.cell (p := ⟨b, off + k * 6 + 3, none⟩) hb77).trans d3
              by_cases hlj : j < n.attrs.length
              · obtain ⟨a, ha⟩ : ∃ a, n.attrs[j]? = some a := ⟨_, List.getElem?_eq_getElem hlj⟩
                have HA := Lib.hid ha
                obtain ⟨b3, o3, rfl, hb3, hc3⟩ := HA7.out (by omega)
                obtain ⟨f0, f1, f2⟩ := hc3 j a ha
                have g0 := (HBI.out.cell (p := ⟨b3, o3 + j * 3, none⟩) hb3).trans f0
                have g1 := (HBI.out.cell (p := ⟨b3, o3 + j * 3 + 1, none⟩) hb3).trans f1
                have g2 := (HBI.out.cell (p := ⟨b3, o3 + j * 3 + 2, none⟩) hb3).trans f2
                have HXI := Lib.hid (HBI.out.alloc HBI.out.size (.cells #[.string a.space, .string a.name, .string a.value] 80))
                have m1 := mn_bd a.name.size
                have m2 := mn_bd a.space.size
                have m3 := mn_bd a.value.size
                have HNJ : Hid (t2 + mn a.name.size + mn a.space.size + mn a.value.size ≤ 2000 → ∀ (i : Nat) (x : AttrL), i < j + 1 → n.attrs[i]? = some x → SzA 2000 x) := Lib.hid (fun h i x hi hx => by
                  rcases Nat.lt_or_ge i j with h1 | h1
                  · exact HNI.out (by omega) i x h1 hx
                  · obtain rfl : i = j := by omega
                    rw [HA.out] at hx
                    simp only [Option.some.injEq] at hx
                    subst hx
                    exact ⟨mn_le (by omega), mn_le (by omega), mn_le (by omega)⟩)
                clear f0 f1 f2 hc3 ha
                unfold mn at *
                go_wp2
                go_roundw
                case rel => exact ⟨j + 1, t2 + min (a.name.size : Int) 20000 + min (a.space.size : Int) 20000 + min (a.value.size : Int) 20000, by omega, by go_num, by go_num, ⟨by omega, by omega⟩, HXI, HNJ⟩
                case measure => simp [intOf]; omega
              · obtain rfl : j = n.attrs.length := by omega
                have HBO := Lib.hid (HB7.out.trans (HBI.out.mono HB7.out.size))
                have HNO : Hid (t2 ≤ 2000 → ∀ (i : Nat) (x : NodeL), i < k + 1 → v[i]? = some x → SmallN x) := Lib.hid (fun h i x hi hx => by
                  rcases Nat.lt_or_ge i k with h1 | h1
                  · exact HN.out (by omega) i x h1 hx
                  · obtain rfl : i = k := by omega
                    rw [HNN.out] at hx
                    simp only [Option.some.injEq] at hx
                    subst hx
                    exact ⟨hsm.1, hsm.2.1, hsm.2.2, by omega, HNI.out h⟩)
                go_wp2
                go_roundw
                case rel => exact ⟨k + 1, t2, ⟨by omega, by omega⟩, rfl, by go_num, ⟨by omega, by omega⟩, HBO, HNO⟩
                case measure => simp [intOf]; omega
      · obtain rfl : k = 600 := by omega
        have h60 : (60 : Int) < (v.length : Int) := by omega
        go_wp2
        go_ret
        exact GreatPost.yes HB.out
    · obtain rfl : k = v.length := by omega
      by_cases h60 : (60 : Int) < (v.length : Int)
      · go_wp2
        go_ret
        exact GreatPost.yes HB.out
      · by_cases h2k : 2000 < t
        · go_wp2
          go_ret
          exact GreatPost.yes HB.out
        · go_wp2
          go_ret
          exact GreatPost.no HB.out (by omega) (HN.out (by omega))
end Go.Proofs.YtnfokaecobddkaaGreatDoor
end
section
namespace Go.Proofs.YtnfokaecobddkaaGreatDoor
open Go.RowKit
set_option linter.unusedSimpArgs false
set_option linter.unusedVariables false
def isEl (space name : ByteArray) (v : List NodeL) : Bool := ((nodeAt v 0).space.toList == space.toList) && ((nodeAt v 0).name.toList == name.toList)
def firstV (space name : ByteArray) (l : List (List NodeL)) : List NodeL := match fstP (isEl space name) l with
  | some i => l.getD i []
  | none => []
def firstB (space name : ByteArray) (l : List (List NodeL)) : Bool := (fstP (isEl space name) l).isSome
def FirstPost (space name : ByteArray) (l : List (List NodeL)) (w : World) (e : Ending) (w' : World) : Prop :=
  ∃ A c, e = .returned (.tuple #[.slice A (firstV space name l).length c, .bool (firstB space name l)]) ∧ (firstV space name l).length ≤ c ∧ RdV w' w'.heap.size A (firstV space name l) ∧ Below w.heap.size w w'
theorem FirstPost.no {space name : ByteArray} {l : List (List NodeL)} {w w' : World} (h : Below w.heap.size w w') (h1 : fstP (isEl space name) l = none) : FirstPost space name l w (.returned (.tuple #[.slice none 0 0, .bool false])) w' := by
  unfold FirstPost firstV firstB
  rw [h1]
  exact ⟨none, 0, rfl, Nat.le_refl _, fun h => absurd h (by simp), h⟩
theorem FirstPost.yes {space name : ByteArray} {l : List (List NodeL)} {w w' : World} {i : Nat} {v : List NodeL} {A : Option Addr} {c : Nat} (h : Below w.heap.size w w') (h1 : fstP (isEl space name) l = some i) (hv : l[i]? = some v) (hc : v.length ≤ c) (hr : RdV w' w'.heap.size A v) :
    FirstPost space name l w (.returned (.tuple #[.slice A v.length c, .bool true])) w' := by
  have e : firstV space name l = v := by unfold firstV; rw [h1]; simp [List.getD_eq_getElem?_getD, hv]
  unfold FirstPost
  rw [e]
  unfold firstB
  rw [h1]
  exact ⟨A, c, rfl, hc, hr, h⟩
end Go.Proofs.YtnfokaecobddkaaGreatDoor
end
section
namespace Go.Proofs.YtnfokaecobddkaaGreatDoor
open Go.RowKit
set_option linter.unusedSimpArgs false
set_option linter.unusedVariables false
def sameL {α : Type} (p : α → α → Bool) (l m : List α) : Bool := decide (l.length = m.length) && (List.range l.length).all fun i => match l[i]?, m[i]? with
  | some x, some y => p x y
  | _, _ => false
theorem sameL_no {α : Type} {p : α → α → Bool} {l m : List α} (h : ¬ l.length = m.length) : sameL p l m = false := by
  unfold sameL
  rw [decide_eq_false h, Bool.false_and]
theorem sameL_at {α : Type} {p : α → α → Bool} {l m : List α} {i : Nat} {x y : α} (h1 : l[i]? = some x) (h2 : m[i]? = some y) (h : p x y = false) : sameL p l m = false := by
  unfold sameL
  have hi := (List.getElem?_eq_some_iff.1 h1).1
  rw [Bool.and_eq_false_iff]
  right
  rw [List.all_eq_false]
  refine ⟨i, List.mem_range.2 hi, ?_⟩
  rw [h1, h2]
  simp [h]
theorem sameL_yes {α : Type} {p : α → α → Bool} {l m : List α} (h : l.length = m.length) (h2 : ∀ (i : Nat) (x y : α), l[i]? = some x → m[i]? = some y → p x y = true) : sameL p l m = true := by
  unfold sameL
  rw [decide_eq_true h, Bool.true_and, List.all_eq_true]
  intro i hi
  have hil := List.mem_range.1 hi
  have h1 := List.getElem?_eq_getElem hil
  have h3 := List.getElem?_eq_getElem (show i < m.length by omega)
  rw [h1, h3]
  exact h2 i _ _ h1 h3
set_option maxHeartbeats 2000000 in
theorem eqA_any (g : Nat) (lb : Array Value) (A1 A2 : Option Addr) (c1 c2 : Nat) (l m : List (AttrL)) (p : AttrL → AttrL → Bool) (w : World) (hr1 : RdA w w.heap.size A1 l) (hr2 : RdA w w.heap.size A2 m) (hn1 : l.length ≤ 1000000000) (hn2 : m.length ≤ 1000000000)
    (eg : ∀ args w, (callFunc g args).run Tryz.prog w = .ok (.enter g args) w)
    (hp : ∀ (W : World) (i : Nat) (x y : AttrL), Below w.heap.size w W → l[i]? = some x → m[i]? = some y → Calls Tryz.prog g (#[encA x, encA y] ++ lb) W fun e w' => e = .returned (.bool (p x y)) ∧ Below w.heap.size w w') :
    Calls Tryz.prog 137 #[.slice A1 l.length c1, .slice A2 m.length c2, .func (.func g) #[] lb] w fun e w' => e = .returned (.bool (sameL p l m)) ∧ Below w.heap.size w w' := by
  have HP := Lib.hid hp
  have HR1 := Lib.hid hr1
  have HR2 := Lib.hid hr2
  clear hp hr1 hr2
  have HSN := Lib.hid (fun h => sameL_no (p := p) (l := l) (m := m) h)
  have HSA := Lib.hid (fun i x y h1 h2 h3 => sameL_at (p := p) (l := l) (m := m) (i := i) (x := x) (y := y) h1 h2 h3)
  have HSY := Lib.hid (fun h1 h2 => sameL_yes (p := p) (l := l) (m := m) h1 h2)
  generalize sameL p l m = r at *
  by_cases hlm : l.length = m.length
  · have hlm' : ((l.length : Int) != (m.length : Int)) = false := by simp [hlm]
    have HLM := Lib.hid hlm
    clear hlm
    go_enter Tryz.func137, Tryz.ntmps137
    go_wp2
    clear hlm'
    go_loopw [7, 8, 9, 17] (fun _ _ _ s17 wr => ∃ k : Nat, k ≤ l.length ∧ s17 = .int .i64 k ∧ Hid (Below w.heap.size w wr) ∧ Hid (∀ (j : Nat) (x y : AttrL), j < k → l[j]? = some x → m[j]? = some y → p x y = true)) (fun _ _ _ s17 _ => l.length - (intOf s17).toNat)
    case atStart => exact ⟨0, Nat.zero_le _, rfl, Lib.hid (Below.refl _ _), Lib.hid (fun j x y hj => absurd hj (by omega))⟩
    case round =>
      obtain ⟨k, hk, rfl, HB, HN⟩ := hrel
      by_cases hlt : k < l.length
      · have hlt2 : k < m.length := by have := HLM.out; omega
        obtain ⟨x, hx⟩ : ∃ x, l[k]? = some x := ⟨_, List.getElem?_eq_getElem hlt⟩
        obtain ⟨y, hy⟩ : ∃ y, m[k]? = some y := ⟨_, List.getElem?_eq_getElem hlt2⟩
        have HX := Lib.hid hx
        have HY := Lib.hid hy
        obtain ⟨b1, o1, rfl, hb1, hc1⟩ := HR1.out (by omega)
        obtain ⟨d01, d11, d21⟩ := (hc1 k x hx).keep (w' := wr) hb1 (fun q hq => HB.out.cell hq)
        obtain ⟨b2, o2, rfl, hb2, hc2⟩ := HR2.out (by omega)
        obtain ⟨d02, d12, d22⟩ := (hc2 k y hy).keep (w' := wr) hb2 (fun q hq => HB.out.cell hq)
        have hne1 : b1 ≠ wr.heap.size := by have := HB.out.size; omega
        have hne2 : b2 ≠ wr.heap.size := by have := HB.out.size; omega
        have hlw2 : b2 < wr.heap.size := by have := HB.out.size; omega
        have e02 := (World.cell?_alloc_lt wr (.cells #[.string x.space, .string x.name, .string x.value] 80) ⟨b2, o2 + k * 3, none⟩ hlw2).trans d02
        have e12 := (World.cell?_alloc_lt wr (.cells #[.string x.space, .string x.name, .string x.value] 80) ⟨b2, o2 + k * 3 + 1, none⟩ hlw2).trans d12
        have e22 := (World.cell?_alloc_lt wr (.cells #[.string x.space, .string x.name, .string x.value] 80) ⟨b2, o2 + k * 3 + 2, none⟩ hlw2).trans d22
        have hcall := HP.out ((wr.alloc (.cells #[.string x.space, .string x.name, .string x.value] 80)).alloc (.cells #[.string y.space, .string y.name, .string y.value] 80)) k x y ((HB.out.alloc HB.out.size _).alloc (by have := HB.out.size; simp; omega) _) hx hy
        have eg' := eg (#[encA x, encA y] ++ lb)
        try unfold encA at hcall eg'
        try unfold encN at hcall eg'
        clear hx hy hc1 hc2
        cases hq : p x y with
        | false =>
          have HF := Lib.hid (HSA.out k x y HX.out HY.out hq)
          rw [hq] at hcall
          clear hq
          have HCALL := Lib.hid hcall
          clear hcall
          go_wp2_with fail
          refine HCALL.out.mono ?_
          rintro e w1 ⟨rfl, hb9⟩
          have X1 := Lib.hid hb9
          clear hb9
          go_wp2
          go_ret
          exact ⟨ret_bool HF.out.symm, X1.out⟩
        | true =>
          have HF : Hid (∀ (j : Nat) (x y : AttrL), j < k + 1 → l[j]? = some x → m[j]? = some y → p x y = true) := Lib.hid (fun j x' y' hj hx' hy' => by
            rcases Nat.lt_or_ge j k with h1 | h1
            · exact HN.out j x' y' h1 hx' hy'
            · obtain rfl : j = k := by omega
              rw [HX.out] at hx'
              rw [HY.out] at hy'
              simp only [Option.some.injEq] at hx' hy'
              rw [← hx', ← hy']; exact hq)
          rw [hq] at hcall
          clear hq
          have HCALL := Lib.hid hcall
          clear hcall
          go_wp2_with fail
          refine HCALL.out.mono ?_
          rintro e w1 ⟨rfl, hb9⟩
          have X1 := Lib.hid hb9
          clear hb9
          go_wp2
          go_roundw
          case rel => exact ⟨k + 1, by omega, by go_num, X1, HF⟩
          case measure => simp [intOf]; omega
      · have HF := Lib.hid (HSY.out HLM.out (fun j x y hx hy => HN.out j x y (by have := (List.getElem?_eq_some_iff.1 hx).1; omega) hx hy))
        obtain rfl : k = l.length := by omega
        go_wp2
        go_ret
        exact ⟨ret_bool HF.out.symm, HB.out⟩
  · have hlm' : ((l.length : Int) != (m.length : Int)) = true := by rw [bne_iff_ne]; omega
    have HF := Lib.hid (HSN.out hlm)
    clear hlm
    go_enter Tryz.func137, Tryz.ntmps137
    go_wp2
    go_ret
    exact ⟨ret_bool HF.out.symm, Below.refl _ _⟩
set_option maxHeartbeats 2000000 in
theorem eqN_any (g : Nat) (lb : Array Value) (A1 A2 : Option Addr) (c1 c2 : Nat) (l m : List (NodeL)) (p : NodeL → NodeL → Bool) (w : World) (hr1 : RdV w w.heap.size A1 l) (hr2 : RdV w w.heap.size A2 m) (hn1 : l.length ≤ 1000000000) (hn2 : m.length ≤ 1000000000)
    (eg : ∀ args w, (callFunc g args).run Tryz.prog w = .ok (.enter g args) w)
    (hp : ∀ (W : World) (i : Nat) (x y : NodeL) (A' : Option Addr) (c' : Nat) (A'' : Option Addr) (c'' : Nat), Below w.heap.size w W → l[i]? = some x → m[i]? = some y → x.attrs.length ≤ c' → RdA w w.heap.size A' x.attrs → y.attrs.length ≤ c'' → RdA w w.heap.size A'' y.attrs → Calls Tryz.prog g (#[encN x A' c', encN y A'' c''] ++ lb) W fun e w' => e = .returned (.bool (p x y)) ∧ Below w.heap.size w w') :
    Calls Tryz.prog 136 #[.slice A1 l.length c1, .slice A2 m.length c2, .func (.func g) #[] lb] w fun e w' => e = .returned (.bool (sameL p l m)) ∧ Below w.heap.size w w' := by
  have HP := Lib.hid hp
  have HR1 := Lib.hid hr1
  have HR2 := Lib.hid hr2
  clear hp hr1 hr2
  have HSN := Lib.hid (fun h => sameL_no (p := p) (l := l) (m := m) h)
  have HSA := Lib.hid (fun i x y h1 h2 h3 => sameL_at (p := p) (l := l) (m := m) (i := i) (x := x) (y := y) h1 h2 h3)
  have HSY := Lib.hid (fun h1 h2 => sameL_yes (p := p) (l := l) (m := m) h1 h2)
  generalize sameL p l m = r at *
  by_cases hlm : l.length = m.length
  · have hlm' : ((l.length : Int) != (m.length : Int)) = false := by simp [hlm]
    have HLM := Lib.hid hlm
    clear hlm
    go_enter Tryz.func136, Tryz.ntmps136
    go_wp2
    clear hlm'
    go_loopw [7, 8, 9, 17] (fun _ _ _ s17 wr => ∃ k : Nat, k ≤ l.length ∧ s17 = .int .i64 k ∧ Hid (Below w.heap.size w wr) ∧ Hid (∀ (j : Nat) (x y : NodeL), j < k → l[j]? = some x → m[j]? = some y → p x y = true)) (fun _ _ _ s17 _ => l.length - (intOf s17).toNat)
    case atStart => exact ⟨0, Nat.zero_le _, rfl, Lib.hid (Below.refl _ _), Lib.hid (fun j x y hj => absurd hj (by omega))⟩
    case round =>
      obtain ⟨k, hk, rfl, HB, HN⟩ := hrel
      by_cases hlt : k < l.length
      · have hlt2 : k < m.length := by have := HLM.out; omega
        obtain ⟨x, hx⟩ : ∃ x, l[k]? = some x := ⟨_, List.getElem?_eq_getElem hlt⟩
        obtain ⟨y, hy⟩ : ∃ y, m[k]? = some y := ⟨_, List.getElem?_eq_getElem hlt2⟩
        have HX := Lib.hid hx
        have HY := Lib.hid hy
        obtain ⟨b1, o1, rfl, hb1, hc1⟩ := HR1.out (by omega)
        obtain ⟨p01, p11, p21, ⟨A', c', p31, hl1, hA1⟩, p41, p51⟩ := hc1 k x hx
        have d01 := (HB.out.cell (p := ⟨b1, o1 + k * 6, none⟩) hb1).trans p01
        have d11 := (HB.out.cell (p := ⟨b1, o1 + k * 6 + 1, none⟩) hb1).trans p11
        have d21 := (HB.out.cell (p := ⟨b1, o1 + k * 6 + 2, none⟩) hb1).trans p21
        have d31 := (HB.out.cell (p := ⟨b1, o1 + k * 6 + 3, none⟩) hb1).trans p31
        have d41 := (HB.out.cell (p := ⟨b1, o1 + k * 6 + 4, none⟩) hb1).trans p41
        have d51 := (HB.out.cell (p := ⟨b1, o1 + k * 6 + 5, none⟩) hb1).trans p51
        have HL1 := Lib.hid hl1
        have HA1 := Lib.hid hA1
        clear hl1 hA1 p01 p11 p21 p31 p41 p51
        obtain ⟨b2, o2, rfl, hb2, hc2⟩ := HR2.out (by omega)
        obtain ⟨p02, p12, p22, ⟨A'', c'', p32, hl2, hA2⟩, p42, p52⟩ := hc2 k y hy
        have d02 := (HB.out.cell (p := ⟨b2, o2 + k * 6, none⟩) hb2).trans p02
        have d12 := (HB.out.cell (p := ⟨b2, o2 + k * 6 + 1, none⟩) hb2).trans p12
        have d22 := (HB.out.cell (p := ⟨b2, o2 + k * 6 + 2, none⟩) hb2).trans p22
        have d32 := (HB.out.cell (p := ⟨b2, o2 + k * 6 + 3, none⟩) hb2).trans p32
        have d42 := (HB.out.cell (p := ⟨b2, o2 + k * 6 + 4, none⟩) hb2).trans p42
        have d52 := (HB.out.cell (p := ⟨b2, o2 + k * 6 + 5, none⟩) hb2).trans p52
        have HL2 := Lib.hid hl2
        have HA2 := Lib.hid hA2
        clear hl2 hA2 p02 p12 p22 p32 p42 p52
        have hne1 : b1 ≠ wr.heap.size := by have := HB.out.size; omega
        have hne2 : b2 ≠ wr.heap.size := by have := HB.out.size; omega
        have hlw2 : b2 < wr.heap.size := by have := HB.out.size; omega
        have e02 := (World.cell?_alloc_lt wr (.cells #[.int .u8 x.kind, .string x.space, .string x.name, .slice A' x.attrs.length c', .string x.text, .int .i64 x.many] 69) ⟨b2, o2 + k * 6, none⟩ hlw2).trans d02
        have e12 := (World.cell?_alloc_lt wr (.cells #[.int .u8 x.kind, .string x.space, .string x.name, .slice A' x.attrs.length c', .string x.text, .int .i64 x.many] 69) ⟨b2, o2 + k * 6 + 1, none⟩ hlw2).trans d12
        have e22 := (World.cell?_alloc_lt wr (.cells #[.int .u8 x.kind, .string x.space, .string x.name, .slice A' x.attrs.length c', .string x.text, .int .i64 x.many] 69) ⟨b2, o2 + k * 6 + 2, none⟩ hlw2).trans d22
        have e32 := (World.cell?_alloc_lt wr (.cells #[.int .u8 x.kind, .string x.space, .string x.name, .slice A' x.attrs.length c', .string x.text, .int .i64 x.many] 69) ⟨b2, o2 + k * 6 + 3, none⟩ hlw2).trans d32
        have e42 := (World.cell?_alloc_lt wr (.cells #[.int .u8 x.kind, .string x.space, .string x.name, .slice A' x.attrs.length c', .string x.text, .int .i64 x.many] 69) ⟨b2, o2 + k * 6 + 4, none⟩ hlw2).trans d42
        have e52 := (World.cell?_alloc_lt wr (.cells #[.int .u8 x.kind, .string x.space, .string x.name, .slice A' x.attrs.length c', .string x.text, .int .i64 x.many] 69) ⟨b2, o2 + k * 6 + 5, none⟩ hlw2).trans d52
        have hcall := HP.out ((wr.alloc (.cells #[.int .u8 x.kind, .string x.space, .string x.name, .slice A' x.attrs.length c', .string x.text, .int .i64 x.many] 69)).alloc (.cells #[.int .u8 y.kind, .string y.space, .string y.name, .slice A'' y.attrs.length c'', .string y.text, .int .i64 y.many] 69)) k x y A' c' A'' c'' ((HB.out.alloc HB.out.size _).alloc (by have := HB.out.size; simp; omega) _) hx hy HL1.out HA1.out HL2.out HA2.out
        have eg' := eg (#[encN x A' c', encN y A'' c''] ++ lb)
        try unfold encA at hcall eg'
        try unfold encN at hcall eg'
        clear hx hy hc1 hc2
        cases hq : p x y with
        | false =>
          have HF := Lib.hid (HSA.out k x y HX.out HY.out hq)
          rw [hq] at hcall
          clear hq
          have HCALL := Lib.hid hcall
          clear hcall
          go_wp2_with fail
          refine HCALL.out.mono ?_
          rintro e w1 ⟨rfl, hb9⟩
          have X1 := Lib.hid hb9
          clear hb9
          go_wp2
          go_ret
          exact ⟨ret_bool HF.out.symm, X1.out⟩
        | true =>
          have HF : Hid (∀ (j : Nat) (x y : NodeL), j < k + 1 → l[j]? = some x → m[j]? = some y → p x y = true) := Lib.hid (fun j x' y' hj hx' hy' => by
            rcases Nat.lt_or_ge j k with h1 | h1
            · exact HN.out j x' y' h1 hx' hy'
            · obtain rfl : j = k := by omega
              rw [HX.out] at hx'
              rw [HY.out] at hy'
              simp only [Option.some.injEq] at hx' hy'
              rw [← hx', ← hy']; exact hq)
          rw [hq] at hcall
          clear hq
          have HCALL := Lib.hid hcall
          clear hcall
          go_wp2_with fail
          refine HCALL.out.mono ?_
          rintro e w1 ⟨rfl, hb9⟩
          have X1 := Lib.hid hb9
          clear hb9
          go_wp2
          go_roundw
          case rel => exact ⟨k + 1, by omega, by go_num, X1, HF⟩
          case measure => simp [intOf]; omega
      · have HF := Lib.hid (HSY.out HLM.out (fun j x y hx hy => HN.out j x y (by have := (List.getElem?_eq_some_iff.1 hx).1; omega) hx hy))
        obtain rfl : k = l.length := by omega
        go_wp2
        go_ret
        exact ⟨ret_bool HF.out.symm, HB.out⟩
  · have hlm' : ((l.length : Int) != (m.length : Int)) = true := by rw [bne_iff_ne]; omega
    have HF := Lib.hid (HSN.out hlm)
    clear hlm
    go_enter Tryz.func136, Tryz.ntmps136
    go_wp2
    go_ret
    exact ⟨ret_bool HF.out.symm, Below.refl _ _⟩
set_option maxHeartbeats 2000000 in
theorem eqT_any (g : Nat) (lb : Array Value) (A1 A2 : Option Addr) (c1 c2 : Nat) (l m : List (List NodeL)) (p : List NodeL → List NodeL → Bool) (w : World) (hr1 : RdW w w.heap.size A1 l) (hr2 : RdW w w.heap.size A2 m) (hn1 : l.length ≤ 1000000000) (hn2 : m.length ≤ 1000000000)
    (eg : ∀ args w, (callFunc g args).run Tryz.prog w = .ok (.enter g args) w)
    (hp : ∀ (W : World) (i : Nat) (x y : List NodeL) (A' : Option Addr) (c' : Nat) (A'' : Option Addr) (c'' : Nat), Below w.heap.size w W → l[i]? = some x → m[i]? = some y → x.length ≤ c' → RdV w w.heap.size A' x → y.length ≤ c'' → RdV w w.heap.size A'' y → Calls Tryz.prog g (#[.slice A' x.length c', .slice A'' y.length c''] ++ lb) W fun e w' => e = .returned (.bool (p x y)) ∧ Below w.heap.size w w') :
    Calls Tryz.prog 40 #[.slice A1 l.length c1, .slice A2 m.length c2, .func (.func g) #[] lb] w fun e w' => e = .returned (.bool (sameL p l m)) ∧ Below w.heap.size w w' := by
  have HP := Lib.hid hp
  have HR1 := Lib.hid hr1
  have HR2 := Lib.hid hr2
  clear hp hr1 hr2
  have HSN := Lib.hid (fun h => sameL_no (p := p) (l := l) (m := m) h)
  have HSA := Lib.hid (fun i x y h1 h2 h3 => sameL_at (p := p) (l := l) (m := m) (i := i) (x := x) (y := y) h1 h2 h3)
  have HSY := Lib.hid (fun h1 h2 => sameL_yes (p := p) (l := l) (m := m) h1 h2)
  generalize sameL p l m = r at *
  by_cases hlm : l.length = m.length
  · have hlm' : ((l.length : Int) != (m.length : Int)) = false := by simp [hlm]
    have HLM := Lib.hid hlm
    clear hlm
    go_enter Tryz.func40, Tryz.ntmps40
    go_wp2
    clear hlm'
    go_loopw [7, 8, 9, 17] (fun _ _ _ s17 wr => ∃ k : Nat, k ≤ l.length ∧ s17 = .int .i64 k ∧ Hid (Below w.heap.size w wr) ∧ Hid (∀ (j : Nat) (x y : List NodeL), j < k → l[j]? = some x → m[j]? = some y → p x y = true)) (fun _ _ _ s17 _ => l.length - (intOf s17).toNat)
    case atStart => exact ⟨0, Nat.zero_le _, rfl, Lib.hid (Below.refl _ _), Lib.hid (fun j x y hj => absurd hj (by omega))⟩
    case round =>
      obtain ⟨k, hk, rfl, HB, HN⟩ := hrel
      by_cases hlt : k < l.length
      · have hlt2 : k < m.length := by have := HLM.out; omega
        obtain ⟨x, hx⟩ : ∃ x, l[k]? = some x := ⟨_, List.getElem?_eq_getElem hlt⟩
        obtain ⟨y, hy⟩ : ∃ y, m[k]? = some y := ⟨_, List.getElem?_eq_getElem hlt2⟩
        have HX := Lib.hid hx
        have HY := Lib.hid hy
        obtain ⟨b1, o1, rfl, hb1, hc1⟩ := HR1.out (by omega)
        obtain ⟨A', c', p01, hl1, hA1⟩ := hc1 k x hx
        have d01 := (HB.out.cell (p := ⟨b1, o1 + k, none⟩) hb1).trans p01
        have HL1 := Lib.hid hl1
        have HA1 := Lib.hid hA1
        clear hl1 hA1 p01
        obtain ⟨b2, o2, rfl, hb2, hc2⟩ := HR2.out (by omega)
        obtain ⟨A'', c'', p02, hl2, hA2⟩ := hc2 k y hy
        have d02 := (HB.out.cell (p := ⟨b2, o2 + k, none⟩) hb2).trans p02
        have HL2 := Lib.hid hl2
        have HA2 := Lib.hid hA2
        clear hl2 hA2 p02
        have hne1 : b1 ≠ wr.heap.size := by have := HB.out.size; omega
        have hne2 : b2 ≠ wr.heap.size := by have := HB.out.size; omega
        have hcall := HP.out wr k x y A' c' A'' c'' HB.out hx hy HL1.out HA1.out HL2.out HA2.out
        have eg' := eg (#[.slice A' x.length c', .slice A'' y.length c''] ++ lb)
        try unfold encA at hcall eg'
        try unfold encN at hcall eg'
        clear hx hy hc1 hc2
        cases hq : p x y with
        | false =>
          have HF := Lib.hid (HSA.out k x y HX.out HY.out hq)
          rw [hq] at hcall
          clear hq
          have HCALL := Lib.hid hcall
          clear hcall
          go_wp2_with fail
          refine HCALL.out.mono ?_
          rintro e w1 ⟨rfl, hb9⟩
          have X1 := Lib.hid hb9
          clear hb9
          go_wp2
          go_ret
          exact ⟨ret_bool HF.out.symm, X1.out⟩
        | true =>
          have HF : Hid (∀ (j : Nat) (x y : List NodeL), j < k + 1 → l[j]? = some x → m[j]? = some y → p x y = true) := Lib.hid (fun j x' y' hj hx' hy' => by
            rcases Nat.lt_or_ge j k with h1 | h1
            · exact HN.out j x' y' h1 hx' hy'
            · obtain rfl : j = k := by omega
              rw [HX.out] at hx'
              rw [HY.out] at hy'
              simp only [Option.some.injEq] at hx' hy'
              rw [← hx', ← hy']; exact hq)
          rw [hq] at hcall
          clear hq
          have HCALL := Lib.hid hcall
          clear hcall
          go_wp2_with fail
          refine HCALL.out.mono ?_
          rintro e w1 ⟨rfl, hb9⟩
          have X1 := Lib.hid hb9
          clear hb9
          go_wp2
          go_roundw
          case rel => exact ⟨k + 1, by omega, by go_num, X1, HF⟩
          case measure => simp [intOf]; omega
      · have HF := Lib.hid (HSY.out HLM.out (fun j x y hx hy => HN.out j x y (by have := (List.getElem?_eq_some_iff.1 hx).1; omega) hx hy))
        obtain rfl : k = l.length := by omega
        go_wp2
        go_ret
        exact ⟨ret_bool HF.out.symm, HB.out⟩
  · have hlm' : ((l.length : Int) != (m.length : Int)) = true := by rw [bne_iff_ne]; omega
    have HF := Lib.hid (HSN.out hlm)
    clear hlm
    go_enter Tryz.func40, Tryz.ntmps40
    go_wp2
    go_ret
    exact ⟨ret_bool HF.out.symm, Below.refl _ _⟩
end Go.Proofs.YtnfokaecobddkaaGreatDoor
end
section
namespace Go.Proofs.YtnfokaecobddkaaGreatDoor
open Go.RowKit
set_option linter.unusedSimpArgs false
set_option linter.unusedVariables false
end Go.Proofs.YtnfokaecobddkaaGreatDoor
end
section
namespace Go.Proofs.YtnfokaecobddkaaGreatDoor
open Go.RowKit
set_option linter.unusedSimpArgs false
set_option linter.unusedVariables false
def sameA (a b : AttrL) : Bool := (a.space.toList == b.space.toList) && (a.name.toList == b.name.toList) && (a.value.toList == b.value.toList)
def sameN (x y : NodeL) : Bool := (x.kind == y.kind) && (x.space.toList == y.space.toList) && (x.name.toList == y.name.toList) && (x.text.toList == y.text.toList) && (x.many == y.many) && sameL sameA x.attrs y.attrs
def sameV (v u : List NodeL) : Bool := sameL sameN v u
def sameS (s t : StL) : Bool := (s.kind == t.kind) && (s.typ.toList == t.typ.toList) && (s.id.toList == t.id.toList) && (s.frm.toList == t.frm.toList) && (s.to.toList == t.to.toList) && sameL sameV s.load t.load
theorem tsame1_any (a b : AttrL) (w : World) :
    Calls Tryz.prog 86 (#[encA a, encA b] ++ #[]) w fun e w' => e = .returned (.bool (sameA a b)) ∧ Below w.heap.size w w' := by
  rw [Array.append_empty]
  have HX := Lib.hid (((Below.refl w.heap.size w).alloc (Nat.le_refl _) (.cells #[.string a.space, .string a.name, .string a.value] 80)).alloc (by simp) (.cells #[.string b.space, .string b.name, .string b.value] 80))
  have HS : Box (sameA a b = ((a.space.toList == b.space.toList) && (a.name.toList == b.name.toList) && (a.value.toList == b.value.toList))) := ⟨rfl⟩
  generalize sameA a b = r at *
  unfold encA
  go_enter Tryz.func86, Tryz.ntmps86
  go_wp2
  all_goals
    go_ret
    exact ⟨ret_bool (by rw [HS.out]; simp [*]), HX.out⟩
theorem tsameA_any (A1 A2 : Option Addr) (c1 c2 : Nat) (l m : List AttrL) (w : World) (h1 : RdA w w.heap.size A1 l) (h2 : RdA w w.heap.size A2 m) (n1 : l.length ≤ 1000000000) (n2 : m.length ≤ 1000000000) :
    Calls Tryz.prog 89 #[.slice A1 l.length c1, .slice A2 m.length c2, .func (.func 86) #[] #[]] w fun e w' => e = .returned (.bool (sameL sameA l m)) ∧ Below w.heap.size w w' := by
  have eg := enters_of (P := Tryz.prog) Tryz.func86 (by kernel_rfl) rfl
  have H := Lib.hid (eqA_any 86 #[] A1 A2 c1 c2 l m sameA w h1 h2 n1 n2 eg (fun W i x y hW hx hy => (tsame1_any x y W).mono fun e w' h => ⟨h.1, hW.trans (h.2.mono hW.size)⟩))
  clear h1 h2 eg
  generalize l.length = N1 at *
  generalize m.length = N2 at *
  generalize sameL sameA l m = r at *
  go_enter Tryz.func89, Tryz.ntmps89
  go_wp2_with fail
  refine H.out.mono ?_
  rintro e w1 ⟨rfl, hb1⟩
  go_wp2
  go_ret
  exact ⟨rfl, hb1⟩
set_option maxHeartbeats 2000000 in
set_option maxRecDepth 10000 in
theorem tsame2_any (x y : NodeL) (A1 A2 : Option Addr) (c1 c2 B : Nat) (w : World) (h1 : RdA w w.heap.size A1 x.attrs) (h2 : RdA w w.heap.size A2 y.attrs) (n1 : x.attrs.length ≤ 1000000000) (n2 : y.attrs.length ≤ 1000000000) (hB : w.cell? ⟨B, 0, none⟩ = some (.func (.func 86) #[] #[])) :
    Calls Tryz.prog 88 (#[encN x A1 c1, encN y A2 c2] ++ #[.pointer (some ⟨B, 0, none⟩)]) w fun e w' => e = .returned (.bool (sameN x y)) ∧ Below w.heap.size w w' := by
  obtain ⟨W0, hW0⟩ : ∃ W0, W0 = (w.alloc (.cells #[.int .u8 x.kind, .string x.space, .string x.name, .slice A1 x.attrs.length c1, .string x.text, .int .i64 x.many] 69)).alloc (.cells #[.int .u8 y.kind, .string y.space, .string y.name, .slice A2 y.attrs.length c2, .string y.text, .int .i64 y.many] 69) := ⟨_, rfl⟩
  have hX0 : Below w.heap.size w W0 := by rw [hW0]; exact ((Below.refl _ _).alloc (Nat.le_refl _) _).alloc (by simp) _
  have H := Lib.hid (tsameA_any A1 A2 c1 c2 x.attrs y.attrs W0 ((h1.below hX0 (Nat.le_refl _)).more hX0.size) ((h2.below hX0 (Nat.le_refl _)).more hX0.size) n1 n2)
  have hB0 := (hX0.cell (p := ⟨B, 0, none⟩) (World.block_lt_of_cell? w _ hB)).trans hB
  have HX1 := Lib.hid hX0.size
  have HX0 := Lib.hid hX0
  rw [hW0] at HX0 hB0
  have HW0 := Lib.hid hW0
  have HS : Box (sameN x y = ((x.kind == y.kind) && (x.space.toList == y.space.toList) && (x.name.toList == y.name.toList) && (x.text.toList == y.text.toList) && (x.many == y.many) && sameL sameA x.attrs y.attrs)) := ⟨rfl⟩
  generalize sameN x y = r at *
  generalize sameL sameA x.attrs y.attrs = q at *
  clear h1 h2 hX0 hW0 hB
  unfold encN
  rw [List.append_toArray, List.cons_append, List.cons_append, List.nil_append]
  cases h1 : (x.kind == y.kind)
  · have HF : Box (r = false) := ⟨by rw [HS.out, h1]; rfl⟩
    go_enter Tryz.func88, Tryz.ntmps88
    go_wp2
    go_ret
    exact ⟨ret_bool HF.out.symm, HX0.out⟩
  · cases h2 : (x.space.toList == y.space.toList)
    · have HF : Box (r = false) := ⟨by rw [HS.out, h1, h2]; rfl⟩
      go_enter Tryz.func88, Tryz.ntmps88
      go_wp2
      go_ret
      exact ⟨ret_bool HF.out.symm, HX0.out⟩
    · cases h3 : (x.name.toList == y.name.toList)
      · have HF : Box (r = false) := ⟨by rw [HS.out, h1, h2, h3]; rfl⟩
        go_enter Tryz.func88, Tryz.ntmps88
        go_wp2
        go_ret
        exact ⟨ret_bool HF.out.symm, HX0.out⟩
      · cases h4 : (x.text.toList == y.text.toList)
        · have HF : Box (r = false) := ⟨by rw [HS.out, h1, h2, h3, h4]; rfl⟩
          go_enter Tryz.func88, Tryz.ntmps88
          go_wp2
          go_ret
          exact ⟨ret_bool HF.out.symm, HX0.out⟩
        · cases h5 : (x.many == y.many)
          · have HF : Box (r = false) := ⟨by rw [HS.out, h1, h2, h3, h4, h5]; rfl⟩
            go_enter Tryz.func88, Tryz.ntmps88
            go_wp2
            go_ret
            exact ⟨ret_bool HF.out.symm, HX0.out⟩
          · have HF : Box (r = q) := ⟨by rw [HS.out, h1, h2, h3, h4, h5]; rfl⟩
            go_enter Tryz.func88, Tryz.ntmps88
            go_wp2_with fail
            rw [← HW0.out]
            refine H.out.mono ?_
            rintro e w1 ⟨rfl, hb1⟩
            have X1 := Lib.hid (HX0.out.trans (by rw [← HW0.out]; exact hb1.mono HX1.out))
            clear hb1
            go_wp2
            go_ret
            exact ⟨ret_bool HF.out.symm, X1.out⟩
theorem tsameN_any (B : Nat) (A1 A2 : Option Addr) (c1 c2 : Nat) (l m : List NodeL) (w : World) (h1 : RdV w w.heap.size A1 l) (h2 : RdV w w.heap.size A2 m) (n1 : SzV 1000000000 l) (n2 : SzV 1000000000 m) (hB : w.cell? ⟨B, 0, none⟩ = some (.func (.func 86) #[] #[])) :
    Calls Tryz.prog 87 #[.slice A1 l.length c1, .slice A2 m.length c2, .func (.func 88) #[] #[.pointer (some ⟨B, 0, none⟩)]] w fun e w' => e = .returned (.bool (sameV l m)) ∧ Below w.heap.size w w' := by
  have eg := enters_of (P := Tryz.prog) Tryz.func88 (by kernel_rfl) rfl
  have H : Hid (Calls Tryz.prog _ _ w fun e w' => e = .returned (.bool (sameV l m)) ∧ Below w.heap.size w w') := Lib.hid (eqN_any 88 #[.pointer (some ⟨B, 0, none⟩)] A1 A2 c1 c2 l m sameN w h1 h2 n1.1 n2.1 eg (fun W i x y A' c' A'' c'' hW hx hy e1 e2 e3 e4 =>
    (tsame2_any x y A' A'' c' c'' B W ((e2.below hW (Nat.le_refl _)).more hW.size) ((e4.below hW (Nat.le_refl _)).more hW.size) (szv_get' n1 hx) (szv_get' n2 hy) ((hW.cell (p := ⟨B, 0, none⟩) (World.block_lt_of_cell? w _ hB)).trans hB)).mono fun e w' h => ⟨h.1, hW.trans (h.2.mono hW.size)⟩))
  clear h1 h2 eg n1 n2 hB
  generalize l.length = N1 at *
  generalize m.length = N2 at *
  generalize sameV l m = r at *
  go_enter Tryz.func87, Tryz.ntmps87
  go_wp2_with fail
  refine H.out.mono ?_
  rintro e w1 ⟨rfl, hb1⟩
  go_wp2
  go_ret
  exact ⟨rfl, hb1⟩
theorem tsame_any (A1 A2 : Option Addr) (c1 c2 : Nat) (l m : List NodeL) (w : World) (h1 : RdV w w.heap.size A1 l) (h2 : RdV w w.heap.size A2 m) (n1 : SzV 1000000000 l) (n2 : SzV 1000000000 m) :
    Calls Tryz.prog 41 #[.slice A1 l.length c1, .slice A2 m.length c2] w fun e w' => e = .returned (.bool (sameV l m)) ∧ Below w.heap.size w w' := by
  obtain ⟨W0, hW0⟩ : ∃ W0, W0 = w.alloc (.cells #[.func (.func 86) #[] #[]] 138) := ⟨_, rfl⟩
  have hX0 : Below w.heap.size w W0 := by rw [hW0]; exact (Below.refl _ _).alloc (Nat.le_refl _) _
  have hB0 : W0.heap[w.heap.size]? = some (.cells #[.func (.func 86) #[] #[]] 138 (0, 0)) := by rw [hW0]; exact heap_alloc_new w _
  have H := Lib.hid (tsameN_any w.heap.size A1 A2 c1 c2 l m W0 ((h1.below hX0 (Nat.le_refl _)).more hX0.size) ((h2.below hX0 (Nat.le_refl _)).more hX0.size) n1 n2 (by simp [World.cell?, hB0]))
  have HX0 := Lib.hid hX0
  have HW0 := Lib.hid hW0
  clear h1 h2 n1 n2 hX0 hB0 hW0
  generalize l.length = N1 at *
  generalize m.length = N2 at *
  generalize sameV l m = r at *
  go_enter Tryz.func41, Tryz.ntmps41
  go_wp2_with fail
  rw [← HW0.out]
  refine H.out.mono ?_
  rintro e w1 ⟨rfl, hb1⟩
  have X1 := Lib.hid (HX0.out.trans (hb1.mono HX0.out.size))
  clear hb1
  go_wp2
  go_ret
  exact ⟨rfl, X1.out⟩
set_option maxHeartbeats 2000000 in
set_option maxRecDepth 10000 in
theorem ssame_any (s t : StL) (A1 A2 : Option Addr) (c1 c2 : Nat) (w : World) (h1 : RdW w w.heap.size A1 s.load) (h2 : RdW w w.heap.size A2 t.load) (n1 : SzW s.load) (n2 : SzW t.load) :
    Calls Tryz.prog 14 #[encS s A1 c1, encS t A2 c2] w fun e w' => e = .returned (.bool (sameS s t)) ∧ Below w.heap.size w w' := by
  obtain ⟨W0, hW0⟩ : ∃ W0, W0 = (w.alloc (.cells #[.int .u8 s.kind, .string s.typ, .string s.id, .string s.frm, .string s.to, .slice A1 s.load.length c1] 24)).alloc (.cells #[.int .u8 t.kind, .string t.typ, .string t.id, .string t.frm, .string t.to, .slice A2 t.load.length c2] 24) := ⟨_, rfl⟩
  have hX0 : Below w.heap.size w W0 := by rw [hW0]; exact ((Below.refl _ _).alloc (Nat.le_refl _) _).alloc (by simp) _
  have eg := enters_of (P := Tryz.prog) Tryz.func41 (by kernel_rfl) rfl
  have H := Lib.hid (eqT_any 41 #[] A1 A2 c1 c2 s.load t.load sameV W0 (RdW.ext h1 hX0) (RdW.ext h2 hX0) n1.1 n2.1 eg (fun W i x y A' c' A'' c'' hW hx hy e1 e2 e3 e4 => by
    rw [Array.append_empty]
    exact (tsame_any A' A'' c' c'' x y W ((e2.below hW (Nat.le_refl _)).more hW.size) ((e4.below hW (Nat.le_refl _)).more hW.size) (n1.2 x (List.mem_of_getElem? hx)) (n2.2 y (List.mem_of_getElem? hy))).mono fun e w' h => ⟨h.1, hW.trans (h.2.mono hW.size)⟩))
  have HX1 := Lib.hid hX0.size
  have HX0 := Lib.hid hX0
  rw [hW0] at HX0
  have HW0 := Lib.hid hW0
  have HS : Box (sameS s t = ((s.kind == t.kind) && (s.typ.toList == t.typ.toList) && (s.id.toList == t.id.toList) && (s.frm.toList == t.frm.toList) && (s.to.toList == t.to.toList) && sameL sameV s.load t.load)) := ⟨rfl⟩
  generalize sameS s t = r at *
  generalize sameL sameV s.load t.load = q at *
  clear h1 h2 hX0 hW0 n1 n2 eg
  unfold encS
  cases h1 : (s.kind == t.kind)
  · have HF : Box (r = false) := ⟨by rw [HS.out, h1]; rfl⟩
    go_enter Tryz.func14, Tryz.ntmps14
    go_wp2
    go_ret
    exact ⟨ret_bool HF.out.symm, HX0.out⟩
  · cases h2 : (s.typ.toList == t.typ.toList)
    · have HF : Box (r = false) := ⟨by rw [HS.out, h1, h2]; rfl⟩
      go_enter Tryz.func14, Tryz.ntmps14
      go_wp2
      go_ret
      exact ⟨ret_bool HF.out.symm, HX0.out⟩
    · cases h3 : (s.id.toList == t.id.toList)
      · have HF : Box (r = false) := ⟨by rw [HS.out, h1, h2, h3]; rfl⟩
        go_enter Tryz.func14, Tryz.ntmps14
        go_wp2
        go_ret
        exact ⟨ret_bool HF.out.symm, HX0.out⟩
      · cases h4 : (s.frm.toList == t.frm.toList)
        · have HF : Box (r = false) := ⟨by rw [HS.out, h1, h2, h3, h4]; rfl⟩
          go_enter Tryz.func14, Tryz.ntmps14
          go_wp2
          go_ret
          exact ⟨ret_bool HF.out.symm, HX0.out⟩
        · cases h5 : (s.to.toList == t.to.toList)
          · have HF : Box (r = false) := ⟨by rw [HS.out, h1, h2, h3, h4, h5]; rfl⟩
            go_enter Tryz.func14, Tryz.ntmps14
            go_wp2
            go_ret
            exact ⟨ret_bool HF.out.symm, HX0.out⟩
          · have HF : Box (r = q) := ⟨by rw [HS.out, h1, h2, h3, h4, h5]; rfl⟩
            go_enter Tryz.func14, Tryz.ntmps14
            go_wp2_with fail
            rw [← HW0.out]
            refine H.out.mono ?_
            rintro e w1 ⟨rfl, hb1⟩
            have X1 := Lib.hid (HX0.out.trans (by rw [← HW0.out]; exact hb1.mono HX1.out))
            clear hb1
            go_wp2
            go_ret
            exact ⟨ret_bool HF.out.symm, X1.out⟩
end Go.Proofs.YtnfokaecobddkaaGreatDoor
end
section
namespace Go.Proofs.YtnfokaecobddkaaGreatDoor
open Go.RowKit
set_option linter.unusedSimpArgs false
set_option linter.unusedVariables false
theorem selfL {α : Type} {f : α → α → Bool} (h : ∀ x, f x x = true) : ∀ l : List α, sameL f l l = true
  | [] => by unfold sameL; rfl
  | x :: t => by
    have := selfL h t
    unfold sameL
    simp_all
theorem selfA (a : AttrL) : sameA a a = true := by simp [sameA]
theorem selfN (a : NodeL) : sameN a a = true := by simp [sameN, selfL selfA]
theorem selfS (s : StL) : sameS s s = true := by
  have h : ∀ v, sameV v v = true := fun v => selfL selfN v
  simp [sameS, selfL h]
theorem small_v {v : List NodeL} {M : Nat} (hz : SzV M v) (h1 : v.length ≤ 60) (h2 : ∀ (i : Nat) (n : NodeL), i < v.length → v[i]? = some n → SmallN n) : SzV 1000000000 v := by
  refine ⟨by omega, fun n hn => ?_⟩
  obtain ⟨i, hi, rfl⟩ := List.mem_iff_getElem.1 hn
  obtain ⟨q1, q2, q3, q4, q5⟩ := h2 i _ hi (List.getElem?_eq_getElem hi)
  have hs := hz.2 _ hn
  refine ⟨hs.1, by omega, by omega, ⟨by omega, fun a ha => ?_⟩, by omega, hs.2.2.2.2.2⟩
  obtain ⟨j, hj, rfl⟩ := List.mem_iff_getElem.1 ha
  obtain ⟨r1, r2, r3⟩ := q5 j _ hj (List.getElem?_eq_getElem hj)
  exact ⟨by omega, by omega, by omega⟩
theorem stn_small {s : StL} (h : stnI s = true) (hl : SzW s.load) : SzS s := by
  obtain ⟨h1, h2, h3, h4, -, -⟩ := stn_parts h
  obtain ⟨k1, k3⟩ := typed_kind h1
  have hid : textErr s.id = 0 := by
    unfold idI at h2
    simp only [Bool.and_eq_true, decide_eq_true_eq] at h2
    exact h2.1.2
  exact ⟨⟨by omega, by omega⟩, text_sz (typed_text h1), text_sz hid, text_sz (address_text h3), text_sz (address_text h4), hl⟩
theorem read_szw {v : List NodeL} (hz : SzV 1000000000 v) (h : readE v = 0) : SzS (readS v) := by
  obtain ⟨ht, hr, hst⟩ := read_good h
  rw [hr]
  exact stn_small hst (elems_szw hz ht)
theorem built_szv {s : StL} (hz : SzS s) (h : buildE s = 0) : SzV 1000000000 (buildV s) := by
  have hst : stnI s = true := by
    unfold buildE at h
    cases hs : stnI s with
    | true => rfl
    | false => rw [hs] at h; simp at h
  have hp : putE (elemS s) s.load = 0 := by unfold buildE at h; rw [hst] at h; exact h
  obtain ⟨ht, hv⟩ := put_tree hp
  have hb : buildV s = joinV (elemS s) s.load := by unfold buildV; rw [hst]; exact hv
  have h3 := (tree_parts ht).2.1
  obtain ⟨z1, z2⟩ := hz.2.2.2.2.2
  rw [hb]
  exact ⟨by omega, joinV_sz (elemS_sz hz) z1 (fun v hv x hx => (z2 v hv).2 x hx)⟩
set_option maxHeartbeats 2000000 in
set_option maxRecDepth 10000 in
theorem buildno_any (s : StL) (A : Option Addr) (c : Nat) (w : World) (hz : SzB s) (hst : stnI s = false) (hr : RdW w w.heap.size A s.load) (hg : Glb w) :
    Calls Tryz.prog 10 #[encS s A c] w (BuildPost s w) := by
  obtain ⟨W0, hW0⟩ : ∃ W0, W0 = w.alloc (.cells #[.int .u8 s.kind, .string s.typ, .string s.id, .string s.frm, .string s.to, .slice A s.load.length c] 24) := ⟨_, rfl⟩
  have hX0 : Below w.heap.size w W0 := by rw [hW0]; exact (Below.refl _ _).alloc (Nat.le_refl _) _
  have hS0 : SAt W0 w.heap.size s A c := by rw [hW0]; exact SAt.new _ _ _ _ _
  have HM := Lib.hid (scheck9_any s A c W0 hz (RdW.ext hr hX0) (hg.below hX0))
  have HEE : Box (stnErr s = if stnI s then 0 else 8) := ⟨rfl⟩
  have HR := Lib.hid hr
  have HZ := Lib.hid hz
  have HX0 := Lib.hid hX0
  have HS := Lib.hid hS0
  have a0 := hS0.c0
  have a1 := hS0.c1
  have a2 := hS0.c2
  have a3 := hS0.c3
  have a4 := hS0.c4
  have a5 := hS0.c5
  rw [hW0] at a0 a1 a2 a3 a4 a5
  have HW0 := Lib.hid hW0
  clear hW0 hX0 hS0 hr hz hg
  unfold encS at *
  generalize stnErr s = q at *
  rw [hst] at HEE
  have he := HEE.out
  simp only [Bool.false_eq_true, if_false] at he
  subst he
  have HST := Lib.hid hst
  clear hst HEE
  go_enter Tryz.func10, Tryz.ntmps10
  go_wp2_with fail
  rw [← HW0.out]
  refine HM.out.mono ?_
  rintro e w1 ⟨rfl, hb1⟩
  have X1 := Lib.hid (HX0.out.trans (hb1.mono HX0.out.size))
  have S1 := Lib.hid (HS.out.ext hb1)
  clear hb1 a0 a1 a2 a3 a4 a5
  go_wp2
  go_ret2
  exact BuildPost.no X1.out HST.out
theorem build9_any (s : StL) (A : Option Addr) (c : Nat) (w : World) (hz : SzB s) (hr : RdW w w.heap.size A s.load) (hg : Glb w) :
    Calls Tryz.prog 10 #[encS s A c] w (BuildPost s w) := by
  cases hst : stnI s with
  | true => exact build_any s A c w (stn_szs hst hz) hr hg
  | false => exact buildno_any s A c w hz hst hr hg
end Go.Proofs.YtnfokaecobddkaaGreatDoor
end
section
namespace Go.Proofs.YtnfokaecobddkaaGreatDoor
open Go.RowKit
set_option linter.unusedVariables false
set_option linter.unusedSimpArgs false
end Go.Proofs.YtnfokaecobddkaaGreatDoor
end
section
namespace Go.Proofs.YtnfokaecobddkaaGreatDoor
open Go.RowKit
set_option linter.unusedSimpArgs false
set_option linter.unusedVariables false
def ReadP (s : ByteArray) (w : World) (e : Ending) (w' : World) : Prop := e = .returned (.tuple #[.int .i64 (numV s), .int .i64 (numE s)]) ∧ Below w.heap.size w w'
theorem ReadP.no {s : ByteArray} {w w' : World} (h : numOK s = false) (hb : Below w.heap.size w w') : ReadP s w (.returned (.tuple #[.int .i64 0, .int .i64 60])) w' := by
  unfold ReadP
  rw [(num_no h).1, (num_no h).2]
  exact ⟨rfl, hb⟩
theorem ReadP.yes {s : ByteArray} {w w' : World} {v : Int} (h : numOK s = true) (hv : v = valK (numsOf s) s.size) (hb : Below w.heap.size w w') : ReadP s w (.returned (.tuple #[.int .i64 v, .int .i64 0])) w' := by
  unfold ReadP
  rw [(num_yes h).1, (num_yes h).2, hv]
  exact ⟨rfl, hb⟩
theorem num_dig {s : ByteArray} (h : digK (numsOf s) s.size = false) : numOK s = false := by unfold numOK; rw [h, Bool.and_false]; rfl
end Go.Proofs.YtnfokaecobddkaaGreatDoor
end
section
namespace Go.Proofs.YtnfokaecobddkaaGreatDoor
open Go.RowKit
set_option linter.unusedSimpArgs false
set_option linter.unusedVariables false
def LevP (s : ByteArray) (w : World) (e : Ending) (w' : World) : Prop := e = .returned (.tuple #[.int .i64 (levV s), .int .i64 (levE s)]) ∧ Below w.heap.size w w'
theorem LevP.no {s : ByteArray} {w w' : World} (h : levOK s = false) (hb : Below w.heap.size w w') : LevP s w (.returned (.tuple #[.int .i64 0, .int .i64 60])) w' := by
  unfold LevP levV levE
  rw [h]
  exact ⟨rfl, hb⟩
theorem LevP.yes {s : ByteArray} {w w' : World} {v : Int} (h : levOK s = true) (hv : v = levS s * numV (levT s)) (hb : Below w.heap.size w w') : LevP s w (.returned (.tuple #[.int .i64 v, .int .i64 0])) w' := by
  unfold LevP levV levE
  rw [h, hv]
  exact ⟨rfl, hb⟩
end Go.Proofs.YtnfokaecobddkaaGreatDoor
end
section
namespace Go.Proofs.YtnfokaecobddkaaGreatDoor
open Go.RowKit
set_option linter.unusedSimpArgs false
set_option linter.unusedVariables false
end Go.Proofs.YtnfokaecobddkaaGreatDoor
end
section
namespace Go.Proofs.YtnfokaecobddkaaGreatDoor
open Go.RowKit
set_option linter.unusedSimpArgs false
set_option linter.unusedVariables false
def saidT (v : List NodeL) (k : Nat) : List UInt8 := (nodeAt v k).text.data.toList
def saidI (v : List NodeL) : ByteArray := ⟨((kidsI v 0).flatMap (saidT v)).toArray⟩
end Go.Proofs.YtnfokaecobddkaaGreatDoor
end
section
namespace Go.Proofs.YtnfokaecobddkaaGreatDoor
open Go.RowKit
set_option linter.unusedSimpArgs false
set_option linter.unusedVariables false
def prioV (s : StL) : List NodeL := firstV (⟨#[106, 97, 98, 98, 101, 114, 58, 99, 108, 105, 101, 110, 116]⟩ : ByteArray) (⟨#[112, 114, 105, 111, 114, 105, 116, 121]⟩ : ByteArray) s.load
def prioB (s : StL) : Bool := firstB (⟨#[106, 97, 98, 98, 101, 114, 58, 99, 108, 105, 101, 110, 116]⟩ : ByteArray) (⟨#[112, 114, 105, 111, 114, 105, 116, 121]⟩ : ByteArray) s.load
def lvV (s : StL) : Int := if prioB s then levV (saidI (prioV s)) else 0
def lvB (s : StL) : Bool := !prioB s || levOK (saidI (prioV s))
def prV (s : StL) : Int := if stnI s && decide (s.kind = 2) && lvB s then lvV s else 0
def prE (s : StL) : Int := if stnI s then (if s.kind = 2 then (if lvB s then 0 else 220) else 2) else 8
def PrioPost (s : StL) (w : World) (e : Ending) (w' : World) : Prop := e = .returned (.tuple #[.int .i64 (prV s), .int .i64 (prE s)]) ∧ Below w.heap.size w w'
theorem PrioPost.kind {s : StL} {w w' : World} (h : stnI s = true) (hk : ¬ s.kind = 2) (hb : Below w.heap.size w w') : PrioPost s w (.returned (.tuple #[.int .i64 0, .int .i64 2])) w' := by
  unfold PrioPost prV prE
  rw [h, decide_eq_false hk, if_pos rfl, if_neg hk]
  exact ⟨rfl, hb⟩
theorem PrioPost.none {s : StL} {w w' : World} (h : stnI s = true) (hk : s.kind = 2) (hp : prioB s = false) (hb : Below w.heap.size w w') : PrioPost s w (.returned (.tuple #[.int .i64 0, .int .i64 0])) w' := by
  unfold PrioPost prV prE lvB lvV
  rw [h, decide_eq_true hk, if_pos rfl, if_pos hk, hp]
  exact ⟨rfl, hb⟩
theorem PrioPost.no {s : StL} {w w' : World} (h : stnI s = true) (hk : s.kind = 2) (hp : prioB s = true) (hl : levOK (saidI (prioV s)) = false) (hb : Below w.heap.size w w') : PrioPost s w (.returned (.tuple #[.int .i64 0, .int .i64 220])) w' := by
  unfold PrioPost prV prE lvB lvV
  rw [h, decide_eq_true hk, if_pos rfl, if_pos hk, hp, hl]
  exact ⟨rfl, hb⟩
theorem PrioPost.yes {s : StL} {w w' : World} {v : Int} (h : stnI s = true) (hk : s.kind = 2) (hp : prioB s = true) (hl : levOK (saidI (prioV s)) = true) (hv : v = levV (saidI (prioV s))) (hb : Below w.heap.size w w') : PrioPost s w (.returned (.tuple #[.int .i64 v, .int .i64 0])) w' := by
  unfold PrioPost prV prE lvB lvV
  rw [h, decide_eq_true hk, if_pos rfl, if_pos hk, hp, hl, hv]
  exact ⟨rfl, hb⟩
end Go.Proofs.YtnfokaecobddkaaGreatDoor
end
section
namespace Go.Proofs.YtnfokaecobddkaaGreatDoor
structure WantL where
  kind : Int
  res : ByteArray
  jid : ByteArray
  name : ByteArray
  groups : List ByteArray
  gone : Bool
end Go.Proofs.YtnfokaecobddkaaGreatDoor
end
section
namespace Go.Proofs.YtnfokaecobddkaaGreatDoor
open Go.RowKit
set_option linter.unusedSimpArgs false
set_option linter.unusedVariables false
def Row (w : World) (g : Nat) (cs : Array Value) : Prop := ∃ t, w.heap[g]? = some (.cells cs t (0, 0))
section
variable {w w' : World} {g : Nat} {cs : Array Value}
theorem Row.at' {v : Value} (h : Row w g cs) (i : Nat) (hv : cs[i]? = some v) : w.cell? ⟨g, i, none⟩ = some v := by
  obtain ⟨t, h⟩ := h
  rw [cell_of_row w g i cs t (0, 0) h]
  exact hv
theorem Row.fz (h : Row w g cs) (i : Nat) : w.frozen? ⟨g, i, none⟩ = false := by obtain ⟨t, h⟩ := h; exact frozen_of_row w g i _ _ h
theorem Row.lt (h : Row w g cs) : g < w.heap.size := by obtain ⟨t, h⟩ := h; exact (Array.getElem?_eq_some_iff.1 h).1
theorem Row.ext (h : Row w g cs) (hb : Below w.heap.size w w') : Row w' g cs := by obtain ⟨t, h⟩ := h; exact ⟨t, heap_ext h hb⟩
theorem Row.set (h : Row w g cs) (i : Nat) (v : Value) : Row (w.setCell ⟨g, i, none⟩ v) g (cs.setIfInBounds i v) := by obtain ⟨t, h⟩ := h; exact ⟨t, heap_setCell_same w g i _ _ _ h⟩
theorem Row.other (h : Row w g cs) {k : Nat} (hk : g ≠ k) (i : Nat) (v : Value) : Row (w.setCell ⟨k, i, none⟩ v) g cs := by obtain ⟨t, h⟩ := h; exact ⟨t, (heap_setCell_other w _ g _ hk).trans h⟩
theorem Row.new (w : World) (t : TypeId) (cs : Array Value) : Row (w.alloc (.cells cs t)) w.heap.size cs := ⟨t, heap_alloc_new w _⟩
end
end Go.Proofs.YtnfokaecobddkaaGreatDoor
end
