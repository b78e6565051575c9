import Derived.Test.YtnmnpnofdgdigaaGreatDoorZ28
import Derived.Laws.StructEq
set_option linter.all false
section
/- Layer 22 (stanza): two trees that are one, the document's. -/
namespace Go.Proofs.YtnmnpnofdgdigaaGreatDoor
open Go.RowKit
set_option linter.unusedSimpArgs false
set_option linter.unusedVariables false
section
variable {ops : Array Oper} {w0 : World} {Fin : List Ty → Prop} {rest : List Oper} {E : Env} {Ts : List Ty} {o : Oper}
theorem tw_ixA {x y : Operand} {b off n c k : Nat} (hk : k < n) (hn : n ≤ 1000000000) (hop : o.op = .indexAddr 34 x y) (hx : evalE E x = some (.slice (some ⟨b, off, none⟩) n c)) (hy : evalE E y = some (.int .i64 (k : Int))) (hw : Wd ops o E true)
    (hr : wpT Tryz.prog ops w0 Fin rest (E.put o.dst (.inl (.pointer (some ⟨b, off + k * 3, none⟩)))) (.inl (.pointer (some ⟨b, off + k * 3, none⟩)) :: Ts)) : wpT Tryz.prog ops w0 Fin (o :: rest) E Ts :=
  tw_pure _ hw (fun a W hW hs => by
    have h1 : a.eval x = _ := evalE_of hx (by rw [hop]; simp [Op.operands]) hs
    have h2 : a.eval y = _ := evalE_of hy (by rw [hop]; simp [Op.operands]) hs
    unfold execOp
    simp only [hop, h1, h2]
    go_simp) hr
theorem tw_ixW {x y : Operand} {b off n c k : Nat} (hk : k < n) (hn : n ≤ 1000000000) (hop : o.op = .indexAddr 25 x y) (hx : evalE E x = some (.slice (some ⟨b, off, none⟩) n c)) (hy : evalE E y = some (.int .i64 (k : Int))) (hw : Wd ops o E true)
    (hr : wpT Tryz.prog ops w0 Fin rest (E.put o.dst (.inl (.pointer (some ⟨b, off + k, none⟩)))) (.inl (.pointer (some ⟨b, off + k, none⟩)) :: Ts)) : wpT Tryz.prog ops w0 Fin (o :: rest) E Ts :=
  tw_pure _ hw (fun a W hW hs => by
    have h1 : a.eval x = _ := evalE_of hx (by rw [hop]; simp [Op.operands]) hs
    have h2 : a.eval y = _ := evalE_of hy (by rw [hop]; simp [Op.operands]) hs
    unfold execOp
    simp only [hop, h1, h2]
    go_simp) hr
theorem tw_ixN {x y : Operand} {b off n c k : Nat} (hk : k < n) (hn : n ≤ 1000000000) (hop : o.op = .indexAddr 22 x y) (hx : evalE E x = some (.slice (some ⟨b, off, none⟩) n c)) (hy : evalE E y = some (.int .i64 (k : Int))) (hw : Wd ops o E true)
    (hr : wpT Tryz.prog ops w0 Fin rest (E.put o.dst (.inl (.pointer (some ⟨b, off + k * 6, none⟩)))) (.inl (.pointer (some ⟨b, off + k * 6, none⟩)) :: Ts)) : wpT Tryz.prog ops w0 Fin (o :: rest) E Ts :=
  tw_pure _ hw (fun a W hW hs => by
    have h1 : a.eval x = _ := evalE_of hx (by rw [hop]; simp [Op.operands]) hs
    have h2 : a.eval y = _ := evalE_of hy (by rw [hop]; simp [Op.operands]) hs
    unfold execOp
    simp only [hop, h1, h2]
    go_simp) hr
theorem tw_neqU {x y : Operand} {i : Int} (hop : o.op = .binOp .neq 5 x y 5) (hx : evalE E x = some (.int .u8 i)) (hy : evalE E y = some (.int .u8 i)) (hw : Wd ops o E true)
    (hr : wpT Tryz.prog ops w0 Fin rest (E.put o.dst (.inl (.bool false))) (.inl (.bool false) :: Ts)) : wpT Tryz.prog ops w0 Fin (o :: rest) E Ts :=
  tw_pure _ hw (fun a W hW hs => by
    have h1 : a.eval x = _ := evalE_of hx (by rw [hop]; simp [Op.operands]) hs
    have h2 : a.eval y = _ := evalE_of hy (by rw [hop]; simp [Op.operands]) hs
    unfold execOp
    simp only [hop, h1, h2]
    go_simp) hr
theorem tw_neqI {x y : Operand} {i : Int} (hop : o.op = .binOp .neq 3 x y 3) (hx : evalE E x = some (.int .i64 i)) (hy : evalE E y = some (.int .i64 i)) (hw : Wd ops o E true)
    (hr : wpT Tryz.prog ops w0 Fin rest (E.put o.dst (.inl (.bool false))) (.inl (.bool false) :: Ts)) : wpT Tryz.prog ops w0 Fin (o :: rest) E Ts :=
  tw_pure _ hw (fun a W hW hs => by
    have h1 : a.eval x = _ := evalE_of hx (by rw [hop]; simp [Op.operands]) hs
    have h2 : a.eval y = _ := evalE_of hy (by rw [hop]; simp [Op.operands]) hs
    unfold execOp
    simp only [hop, h1, h2]
    go_simp) hr
theorem tw_neqS {x y : Operand} {s : ByteArray} (hop : o.op = .binOp .neq 9 x y 9) (hx : evalE E x = some (.string s)) (hy : evalE E y = some (.string s)) (hw : Wd ops o E true)
    (hr : wpT Tryz.prog ops w0 Fin rest (E.put o.dst (.inl (.bool false))) (.inl (.bool false) :: Ts)) : wpT Tryz.prog ops w0 Fin (o :: rest) E Ts :=
  tw_pure _ hw (fun a W hW hs => by
    have h1 : a.eval x = _ := evalE_of hx (by rw [hop]; simp [Op.operands]) hs
    have h2 : a.eval y = _ := evalE_of hy (by rw [hop]; simp [Op.operands]) hs
    unfold execOp
    simp only [hop, h1, h2]
    go_simp) hr
theorem tw_ldAt {x : Operand} {b off : Nat} {t : AttrL} (hop : o.op = .load 75 x) (hE : evalE E x = some (.pointer (some ⟨b, off, none⟩))) (hc : ∀ W, Ext w0 W → AtAt W b off t) (hw : Wd ops o E true)
    (hr : wpT Tryz.prog ops w0 Fin rest (E.put o.dst (.inl (encA t))) (.inl (encA t) :: Ts)) : wpT Tryz.prog ops w0 Fin (o :: rest) E Ts :=
  tw_pure _ hw (fun a W hW hs => by
    have h1 : a.eval x = _ := evalE_of hE (by rw [hop]; simp [Op.operands]) hs
    obtain ⟨c0, c1, c2⟩ := hc W hW
    unfold execOp encA
    simp only [hop, h1]
    go_simp) hr
theorem tw_neqA {x y : Operand} {t : AttrL} (hop : o.op = .binOp .neq 75 x y 75) (hx : evalE E x = some (encA t)) (hy : evalE E y = some (encA t)) (hw : Wd ops o E true)
    (hr : wpT Tryz.prog ops w0 Fin rest (E.put o.dst (.inl (.bool false))) (.inl (.bool false) :: Ts)) : wpT Tryz.prog ops w0 Fin (o :: rest) E Ts :=
  tw_pure _ hw (fun a W hW hs => by
    have h1 : a.eval x = _ := evalE_of hx (by rw [hop]; simp [Op.operands]) hs
    have h2 : a.eval y = _ := evalE_of hy (by rw [hop]; simp [Op.operands]) hs
    unfold encA at h1 h2
    unfold execOp
    simp only [hop, h1, h2]
    go_simp) hr
end
set_option maxHeartbeats 8000000 in
set_option maxRecDepth 10000 in
theorem sameattrs_one (l : List AttrL) (A1 A2 : Option Addr) (c1 c2 : Nat) (w : World) (h1 : RdA w w.heap.size A1 l) (h2 : RdA w w.heap.size A2 l) (hn : l.length ≤ 1000000000) :
    Calls Tryz.prog 37 #[.slice A1 l.length c1, .slice A2 l.length c2] w fun e w' => e = .returned (.bool true) ∧ Below w.heap.size w w' := by
  have H1 := Lib.hid h1
  have H2 := Lib.hid h2
  clear h1 h2
  go_enter Tryz.func37, Tryz.ntmps37
  go_wp2
  go_loopw [5] (fun s5 wr => ∃ k : Nat, k ≤ l.length ∧ s5 = .int .i64 k ∧ Hid (Below w.heap.size w wr)) (fun s5 _ => l.length - (intOf s5).toNat)
  case atStart => exact ⟨0, Nat.zero_le _, rfl, Lib.hid (Below.refl _ _)⟩
  case round =>
    obtain ⟨k, hk, rfl, HB⟩ := hrel
    by_cases hlt : k < l.length
    · obtain ⟨a, ha⟩ : ∃ a, l[k]? = some a := ⟨_, List.getElem?_eq_getElem hlt⟩
      obtain ⟨b1, o1, rfl, hb1, hc1⟩ := H1.out (by omega)
      obtain ⟨b2, o2, rfl, hb2, hc2⟩ := H2.out (by omega)
      obtain ⟨d0, d1, d2⟩ := hc1 k a ha
      obtain ⟨f0, f1, f2⟩ := hc2 k a ha
      have G1 := Lib.hid (fun W (hW : Ext wr.drew W) => (show AtAt W b1 (o1 + k * 3) a from (hc1 k a ha).keep hb1 (fun p hp => (HB.out.trans ((ext_below hW).mono HB.out.size)).cell hp)))
      have G2 := Lib.hid (fun W (hW : Ext wr.drew W) => (show AtAt W b2 (o2 + k * 3) a from (hc2 k a ha).keep hb2 (fun p hp => (HB.out.trans ((ext_below hW).mono HB.out.size)).cell hp)))
      clear d0 d1 d2 f0 f1 f2 hc1 hc2 ha
      go_wp2
      refine wp_region_typed rfl (by kernel_rfl) (by kernel_rfl) ?_
      repeat (first | refine tw_ixA hlt hn rfl rfl rfl (by first | exact wd_none rfl | exact wd_yes rfl rfl rfl) ?_ | refine tw_ldAt rfl rfl G1.out (by first | exact wd_none rfl | exact wd_yes rfl rfl rfl) ?_ | refine tw_ldAt rfl rfl G2.out (by first | exact wd_none rfl | exact wd_yes rfl rfl rfl) ?_ | refine tw_neqA rfl rfl rfl (by first | exact wd_none rfl | exact wd_yes rfl rfl rfl) ?_ | refine tw_skip (wd_no rfl rfl rfl) ?_ | refine tw_mv (.inl rfl) rfl (by first | exact wd_none rfl | exact wd_yes rfl rfl rfl) ?_ | refine tw_mv (.inr rfl) rfl (by first | exact wd_none rfl | exact wd_yes rfl rfl rfl) ?_ | refine tw_pickL rfl rfl rfl (by first | exact wd_none rfl | exact wd_yes rfl rfl rfl) ?_ | refine tw_op1 _ rfl rfl (by first | exact wd_none rfl | exact wd_yes rfl rfl rfl) (fun ρ W hW h1 => by simp only [execOp, h1]; go_simp; first | done | rfl) ?_ | refine tw_op2 _ rfl rfl rfl (by first | exact wd_none rfl | exact wd_yes rfl rfl rfl) (fun ρ W hW h1 h2 => by simp only [execOp, h1, h2]; go_simp; first | done | rfl) ?_)
      dsimp only [wpT, List.reverse, List.reverseAux, FinT]
      intro W7 hW7 _
      simp only [Act.put, List.setIfInBounds_toArray, List.set_cons_zero, List.set_cons_succ]
      have HB7 := Lib.hid (HB.out.trans ((ext_below hW7).mono HB.out.size))
      clear hW7 G1 G2
      go_wp2
      go_roundw
      case rel => exact ⟨k + 1, by omega, by go_num, HB7⟩
      case measure => simp [intOf]; omega
    · obtain rfl : k = l.length := by omega
      go_wp2
      go_ret
      exact ⟨rfl, HB.out⟩
set_option maxHeartbeats 8000000 in
set_option maxRecDepth 10000 in
theorem same_one (v : List NodeL) (A1 A2 : Option Addr) (c1 c2 : Nat) (w : World) (h1 : RdV w w.heap.size A1 v) (h2 : RdV w w.heap.size A2 v) (hz : SzV 1000000000 v) :
    Calls Tryz.prog 11 #[.slice A1 v.length c1, .slice A2 v.length c2] w fun e w' => e = .returned (.bool true) ∧ Below w.heap.size w w' := by
  have H1 := Lib.hid h1
  have H2 := Lib.hid h2
  have HZ := Lib.hid hz
  have hn := hz.1
  clear h1 h2 hz
  go_enter Tryz.func11, Tryz.ntmps11
  go_wp2
  go_loopw [5] (fun s5 wr => ∃ k : Nat, k ≤ v.length ∧ s5 = .int .i64 k ∧ Hid (Below w.heap.size w wr)) (fun s5 _ => v.length - (intOf s5).toNat)
  case atStart => exact ⟨0, Nat.zero_le _, rfl, Lib.hid (Below.refl _ _)⟩
  case round =>
    obtain ⟨k, hk, rfl, HB⟩ := hrel
    by_cases hlt : k < v.length
    · obtain ⟨n, hnn⟩ : ∃ n, v[k]? = some n := ⟨_, List.getElem?_eq_getElem hlt⟩
      have hat := (szv_get HZ.out hnn).2.2.2.1.1
      obtain ⟨b1, o1, rfl, hb1, hc1⟩ := (H1.out.below HB.out (Nat.le_refl _)) (by omega)
      obtain ⟨b2, o2, rfl, hb2, hc2⟩ := (H2.out.below HB.out (Nat.le_refl _)) (by omega)
      obtain ⟨d0, d1, d2, ⟨A3, c3, d3, hl3, hA3⟩, d4, d5⟩ := hc1 k n hnn
      obtain ⟨f0, f1, f2, ⟨A4, c4, f3, hl4, hA4⟩, f4, f5⟩ := hc2 k n hnn
      have HSA := Lib.hid (fun W (hW : Below wr.heap.size wr W) => sameattrs_one n.attrs A3 A4 c3 c4 W ((hA3.more HB.out.size).below hW (Nat.le_refl _) |>.more hW.size) ((hA4.more HB.out.size).below hW (Nat.le_refl _) |>.more hW.size) hat)
      have ES := Lib.hid (enters_of (P := Tryz.prog) Tryz.func37 (by kernel_rfl) rfl)
      have hb1r := Nat.lt_of_lt_of_le hb1 HB.out.size
      have hb2r := Nat.lt_of_lt_of_le hb2 HB.out.size
      clear hc1 hc2 hnn hA3 hA4
      have G10 := Lib.hid (fun W (hW : Ext wr.drew W) => ((ext_below hW).cell (p := ⟨b1, o1 + k * 6, none⟩) hb1r).trans d0)
      have G11 := Lib.hid (fun W (hW : Ext wr.drew W) => ((ext_below hW).cell (p := ⟨b1, o1 + k * 6 + 1, none⟩) hb1r).trans d1)
      have G12 := Lib.hid (fun W (hW : Ext wr.drew W) => ((ext_below hW).cell (p := ⟨b1, o1 + k * 6 + 2, none⟩) hb1r).trans d2)
      have G13 := Lib.hid (fun W (hW : Ext wr.drew W) => ((ext_below hW).cell (p := ⟨b1, o1 + k * 6 + 3, none⟩) hb1r).trans d3)
      have G14 := Lib.hid (fun W (hW : Ext wr.drew W) => ((ext_below hW).cell (p := ⟨b1, o1 + k * 6 + 4, none⟩) hb1r).trans d4)
      have G15 := Lib.hid (fun W (hW : Ext wr.drew W) => ((ext_below hW).cell (p := ⟨b1, o1 + k * 6 + 5, none⟩) hb1r).trans d5)
      have G20 := Lib.hid (fun W (hW : Ext wr.drew W) => ((ext_below hW).cell (p := ⟨b2, o2 + k * 6, none⟩) hb2r).trans f0)
      have G21 := Lib.hid (fun W (hW : Ext wr.drew W) => ((ext_below hW).cell (p := ⟨b2, o2 + k * 6 + 1, none⟩) hb2r).trans f1)
      have G22 := Lib.hid (fun W (hW : Ext wr.drew W) => ((ext_below hW).cell (p := ⟨b2, o2 + k * 6 + 2, none⟩) hb2r).trans f2)
      have G23 := Lib.hid (fun W (hW : Ext wr.drew W) => ((ext_below hW).cell (p := ⟨b2, o2 + k * 6 + 3, none⟩) hb2r).trans f3)
      have G24 := Lib.hid (fun W (hW : Ext wr.drew W) => ((ext_below hW).cell (p := ⟨b2, o2 + k * 6 + 4, none⟩) hb2r).trans f4)
      have G25 := Lib.hid (fun W (hW : Ext wr.drew W) => ((ext_below hW).cell (p := ⟨b2, o2 + k * 6 + 5, none⟩) hb2r).trans f5)
      clear d0 d1 d2 d3 d4 d5 f0 f1 f2 f3 f4 f5
      go_wp2
      refine wp_region_typed rfl (by kernel_rfl) (by kernel_rfl) ?_
      repeat (first | refine tw_ixN hlt hn rfl rfl rfl (by first | exact wd_none rfl | exact wd_yes rfl rfl rfl) ?_ | refine tw_ldU rfl rfl G10.out (by first | exact wd_none rfl | exact wd_yes rfl rfl rfl) ?_ | refine tw_ldU rfl rfl G20.out (by first | exact wd_none rfl | exact wd_yes rfl rfl rfl) ?_ | refine tw_ldS rfl rfl G11.out (by first | exact wd_none rfl | exact wd_yes rfl rfl rfl) ?_ | refine tw_ldS rfl rfl G21.out (by first | exact wd_none rfl | exact wd_yes rfl rfl rfl) ?_ | refine tw_ldS rfl rfl G12.out (by first | exact wd_none rfl | exact wd_yes rfl rfl rfl) ?_ | refine tw_ldS rfl rfl G22.out (by first | exact wd_none rfl | exact wd_yes rfl rfl rfl) ?_ | refine tw_ldS rfl rfl G14.out (by first | exact wd_none rfl | exact wd_yes rfl rfl rfl) ?_ | refine tw_ldS rfl rfl G24.out (by first | exact wd_none rfl | exact wd_yes rfl rfl rfl) ?_ | refine tw_ldI rfl rfl G15.out (by first | exact wd_none rfl | exact wd_yes rfl rfl rfl) ?_ | refine tw_ldI rfl rfl G25.out (by first | exact wd_none rfl | exact wd_yes rfl rfl rfl) ?_ | refine tw_ldA rfl rfl G13.out (by first | exact wd_none rfl | exact wd_yes rfl rfl rfl) ?_ | refine tw_ldA rfl rfl G23.out (by first | exact wd_none rfl | exact wd_yes rfl rfl rfl) ?_ | refine tw_neqU rfl rfl rfl (by first | exact wd_none rfl | exact wd_yes rfl rfl rfl) ?_ | refine tw_neqI rfl rfl rfl (by first | exact wd_none rfl | exact wd_yes rfl rfl rfl) ?_ | refine tw_neqS rfl rfl rfl (by first | exact wd_none rfl | exact wd_yes rfl rfl rfl) ?_ | refine tw_fnB #[.slice A3 n.attrs.length c3, .slice A4 n.attrs.length c4] (.bool true) rfl (fun W => ES.out _ W) rfl (by first | exact wd_none rfl | exact wd_yes rfl rfl rfl) (fun W hW => HSA.out W (ext_below hW)) ?_ | refine tw_skip (wd_no rfl rfl rfl) ?_ | refine tw_mv (.inl rfl) rfl (by first | exact wd_none rfl | exact wd_yes rfl rfl rfl) ?_ | refine tw_mv (.inr rfl) rfl (by first | exact wd_none rfl | exact wd_yes rfl rfl rfl) ?_ | refine tw_pickL rfl rfl rfl (by first | exact wd_none rfl | exact wd_yes rfl rfl rfl) ?_ | refine tw_op1 _ rfl rfl (by first | exact wd_none rfl | exact wd_yes rfl rfl rfl) (fun ρ W hW h1 => by simp only [execOp, h1]; go_simp; first | done | rfl) ?_ | refine tw_op2 _ rfl rfl rfl (by first | exact wd_none rfl | exact wd_yes rfl rfl rfl) (fun ρ W hW h1 h2 => by simp only [execOp, h1, h2]; go_simp; first | done | rfl) ?_)
      dsimp only [wpT, List.reverse, List.reverseAux, FinT]
      intro W7 hW7 _
      simp only [Act.put, List.setIfInBounds_toArray, List.set_cons_zero, List.set_cons_succ]
      have HB1 := Lib.hid (HB.out.trans ((ext_below hW7).mono HB.out.size))
      clear hW7 G10 G11 G12 G13 G14 G15 G20 G21 G22 G23 G24 G25
      go_wp2
      go_roundw
      case rel => exact ⟨k + 1, by omega, by go_num, HB1⟩
      case measure => simp [intOf]; omega
    · obtain rfl : k = v.length := by omega
      go_wp2
      go_ret
      exact ⟨rfl, HB.out⟩
end Go.Proofs.YtnmnpnofdgdigaaGreatDoor
end
section
/- Layer 22 (stanza): two stanzas that are one, the document's. -/
namespace Go.Proofs.YtnmnpnofdgdigaaGreatDoor
open Go.RowKit
set_option linter.unusedSimpArgs false
set_option linter.unusedVariables false
set_option maxHeartbeats 8000000 in
set_option maxRecDepth 10000 in
theorem same22_one (s : StL) (A1 A2 : Option Addr) (c1 c2 : Nat) (w : World) (h1 : RdW w w.heap.size A1 s.load) (h2 : RdW w w.heap.size A2 s.load) (hz : SzW s.load) :
    Calls Tryz.prog 10 #[encS s A1 c1, encS s A2 c2] w fun e w' => e = .returned (.bool true) ∧ Below w.heap.size w w' := by
  obtain ⟨W1, hW1⟩ : ∃ W1, W1 = w.alloc (.cells #[.int .u8 s.kind, .string s.typ, .string s.id, .string s.frm, .string s.to, .slice A1 s.load.length c1] 27) := ⟨_, rfl⟩
  have hX1 : Below w.heap.size w W1 := by rw [hW1]; exact (Below.refl _ _).alloc (Nat.le_refl _) _
  have hS1 : SAt W1 w.heap.size s A1 c1 := by rw [hW1]; exact SAt.new _ _ _ _ _
  have hs1 : W1.heap.size = w.heap.size + 1 := by rw [hW1]; simp
  obtain ⟨W2, hW2⟩ : ∃ W2, W2 = W1.alloc (.cells #[.int .u8 s.kind, .string s.typ, .string s.id, .string s.frm, .string s.to, .slice A2 s.load.length c2] 27) := ⟨_, rfl⟩
  have hX2 : Below W1.heap.size W1 W2 := by rw [hW2]; exact (Below.refl _ _).alloc (Nat.le_refl _) _
  have hS2 : SAt W2 W1.heap.size s A2 c2 := by rw [hW2]; exact SAt.new _ _ _ _ _
  rw [hs1] at hS2
  have S1 := Lib.hid (hS1.ext hX2)
  have S2 := Lib.hid hS2
  have X := Lib.hid (hX1.trans (hX2.mono hX1.size))
  have H1 := Lib.hid (RdW.ext h1 X.out)
  have H2 := Lib.hid (RdW.ext h2 X.out)
  have HW1 := Lib.hid hW1
  have HW2 := Lib.hid hW2
  have HZ := Lib.hid hz
  have hn := hz.1
  clear hW1 hW2 hX1 hX2 hS1 hS2 h1 h2 hz hs1
  have a0 := S1.out.c0
  have a1 := S1.out.c1
  have a2 := S1.out.c2
  have a3 := S1.out.c3
  have a4 := S1.out.c4
  have a5 := S1.out.c5
  have b0 := S2.out.c0
  have b1 := S2.out.c1
  have b2 := S2.out.c2
  have b3 := S2.out.c3
  have b4 := S2.out.c4
  have b5 := S2.out.c5
  rw [HW2.out, HW1.out] at a5 b5
  unfold encS
  go_enter Tryz.func10, Tryz.ntmps10
  go_wp2
  rw [← HW1.out, ← HW2.out]
  clear a0 a1 a2 a3 a4 a5 b0 b1 b2 b3 b4 b5
  go_loopw [5] (fun s5 wr => ∃ k : Nat, k ≤ s.load.length ∧ s5 = .int .i64 k ∧ Hid (Below W2.heap.size W2 wr)) (fun s5 _ => s.load.length - (intOf s5).toNat)
  case atStart => exact ⟨0, Nat.zero_le _, rfl, Lib.hid (Below.refl _ _)⟩
  case round =>
    obtain ⟨k, hk, rfl, HB⟩ := hrel
    have T1 := Lib.hid (S1.out.ext HB.out)
    have T2 := Lib.hid (S2.out.ext HB.out)
    have a5 := T1.out.c5
    have b5 := T2.out.c5
    by_cases hlt : k < s.load.length
    · obtain ⟨v, hv⟩ : ∃ v, s.load[k]? = some v := ⟨_, List.getElem?_eq_getElem hlt⟩
      have hzv := HZ.out.2 v (List.mem_of_getElem? hv)
      obtain ⟨g1, o1, rfl, hg1, hc1⟩ := (RdW.ext H1.out HB.out) (by omega)
      obtain ⟨g2, o2, rfl, hg2, hc2⟩ := (RdW.ext H2.out HB.out) (by omega)
      obtain ⟨A3, c3, d1, hl3, hA3⟩ := hc1 k v hv
      obtain ⟨A4, c4, d2, hl4, hA4⟩ := hc2 k v hv
      have HSA := Lib.hid (fun W (hW : Below wr.heap.size wr W) => same_one v A3 A4 c3 c4 W (hA3.below hW (Nat.le_refl _) |>.more hW.size) (hA4.below hW (Nat.le_refl _) |>.more hW.size) hzv)
      have ES := Lib.hid (enters_of (P := Tryz.prog) Tryz.func11 (by kernel_rfl) rfl)
      have G1 := Lib.hid (fun W (hW : Ext wr.drew W) => (T1.out.ext (ext_below hW)).c5)
      have G2 := Lib.hid (fun W (hW : Ext wr.drew W) => (T2.out.ext (ext_below hW)).c5)
      have G3 := Lib.hid (fun W (hW : Ext wr.drew W) => ((ext_below hW).cell (p := ⟨g1, o1 + k, none⟩) hg1).trans d1)
      have G4 := Lib.hid (fun W (hW : Ext wr.drew W) => ((ext_below hW).cell (p := ⟨g2, o2 + k, none⟩) hg2).trans d2)
      clear d1 d2 hc1 hc2 hv hA3 hA4
      go_wp2
      refine wp_region_typed rfl (by kernel_rfl) (by kernel_rfl) ?_
      repeat (first | refine tw_ixW hlt hn rfl rfl rfl (by first | exact wd_none rfl | exact wd_yes rfl rfl rfl) ?_ | refine tw_ldW rfl rfl G1.out (by first | exact wd_none rfl | exact wd_yes rfl rfl rfl) ?_ | refine tw_ldW rfl rfl G2.out (by first | exact wd_none rfl | exact wd_yes rfl rfl rfl) ?_ | refine tw_ldV rfl rfl G3.out (by first | exact wd_none rfl | exact wd_yes rfl rfl rfl) ?_ | refine tw_ldV rfl rfl G4.out (by first | exact wd_none rfl | exact wd_yes rfl rfl rfl) ?_ | refine tw_fnB #[.slice A3 v.length c3, .slice A4 v.length c4] (.bool true) rfl (fun W => ES.out _ W) rfl (by first | exact wd_none rfl | exact wd_yes rfl rfl rfl) (fun W hW => HSA.out W (ext_below hW)) ?_ | refine tw_skip (wd_no rfl rfl rfl) ?_ | refine tw_mv (.inl rfl) rfl (by first | exact wd_none rfl | exact wd_yes rfl rfl rfl) ?_ | refine tw_mv (.inr rfl) rfl (by first | exact wd_none rfl | exact wd_yes rfl rfl rfl) ?_ | refine tw_pickL rfl rfl rfl (by first | exact wd_none rfl | exact wd_yes rfl rfl rfl) ?_ | refine tw_op1 _ rfl rfl (by first | exact wd_none rfl | exact wd_yes rfl rfl rfl) (fun ρ W hW h1 => by simp only [execOp, h1]; go_simp; first | done | rfl) ?_ | refine tw_op2 _ rfl rfl rfl (by first | exact wd_none rfl | exact wd_yes rfl rfl rfl) (fun ρ W hW h1 h2 => by simp only [execOp, h1, h2]; go_simp; first | done | rfl) ?_)
      dsimp only [wpT, List.reverse, List.reverseAux, FinT]
      intro W7 hW7 _
      simp only [Act.put, List.setIfInBounds_toArray, List.set_cons_zero, List.set_cons_succ]
      have HB1 := Lib.hid (HB.out.trans ((ext_below hW7).mono HB.out.size))
      clear hW7 G1 G2 G3 G4
      go_wp2
      go_roundw
      case rel => exact ⟨k + 1, by omega, by go_num, HB1⟩
      case measure => simp [intOf]; omega
    · obtain rfl : k = s.load.length := by omega
      have a0 := T1.out.c0
      have a1 := T1.out.c1
      have a2 := T1.out.c2
      have a3 := T1.out.c3
      have a4 := T1.out.c4
      have b0 := T2.out.c0
      have b1 := T2.out.c1
      have b2 := T2.out.c2
      have b3 := T2.out.c3
      have b4 := T2.out.c4
      go_wp2
      go_ret
      exact ⟨rfl, X.out.trans (HB.out.mono X.out.size)⟩
end Go.Proofs.YtnmnpnofdgdigaaGreatDoor
end
section
/- Layer 10 (tree): how great a tree is, the document's gate. -/
namespace Go.Proofs.YtnmnpnofdgdigaaGreatDoor
open Go.RowKit
set_option linter.unusedSimpArgs false
set_option linter.unusedVariables false
def mn (x : Nat) : Int := min (x : Int) 20000
theorem mn_bd (x : Nat) : 0 ≤ mn x ∧ mn x ≤ 20000 := by unfold mn; omega
theorem mn_le {x : Nat} (h : mn x ≤ 2000) : x ≤ 2000 := by unfold mn at h; omega
def SmallN (n : NodeL) : Prop := n.space.size ≤ 2000 ∧ n.name.size ≤ 2000 ∧ n.text.size ≤ 2000 ∧ n.attrs.length ≤ 30 ∧ ∀ (i : Nat) (a : AttrL), i < n.attrs.length → n.attrs[i]? = some a → SzA 2000 a
section
variable {ops : Array Oper} {w0 : World} {Fin : List Ty → Prop} {rest : List Oper} {E : Env} {Ts : List Ty} {o : Oper}
theorem tw_ixN0 {x y : Operand} {b off n c k : Nat} (hk : k < n) (hop : o.op = .indexAddr 22 x y) (hx : evalE E x = some (.slice (some ⟨b, off, none⟩) n c)) (hy : evalE E y = some (.int .i64 (k : Int))) (hw : Wd ops o E true)
    (hr : wpT Tryz.prog ops w0 Fin rest (E.put o.dst (.inl (.pointer (some ⟨b, off + k * 6, none⟩)))) (.inl (.pointer (some ⟨b, off + k * 6, none⟩)) :: Ts)) : wpT Tryz.prog ops w0 Fin (o :: rest) E Ts :=
  tw_pure _ hw (fun a W hW hs => by
    have h1 : a.eval x = _ := evalE_of hx (by rw [hop]; simp [Op.operands]) hs
    have h2 : a.eval y = _ := evalE_of hy (by rw [hop]; simp [Op.operands]) hs
    unfold execOp
    simp only [hop, h1, h2]
    go_simp) hr
theorem tw_min20 {x : Operand} (m : Nat) (hop : o.op = .call { callee := .builtin .min, args := #[x, .const (.int .i64 20000)], argTypes := #[3, 3] }) (hx : evalE E x = some (.int .i64 (m : Int))) (hw : Wd ops o E true)
    (hr : wpT Tryz.prog ops w0 Fin rest (E.put o.dst (.inl (.int .i64 (mn m)))) (.inl (.int .i64 (mn m)) :: Ts)) : wpT Tryz.prog ops w0 Fin (o :: rest) E Ts :=
  tw_pure _ hw (fun a W hW hs => by
    have h1 : a.eval x = .int .i64 (m : Int) := evalE_of hx (by rw [hop]; simp [Op.operands, Call.operands]) hs
    have h2 : a.eval (.const (.int .i64 20000)) = .int .i64 20000 := rfl
    unfold execOp mn
    simp only [hop, resolve, invoke, builtin, Sem.run_bind, Sem.run_pure, Result.andThen_ok, List.map_toArray, List.map_cons, List.map_nil, h1, h2]
    go_simp
    first | done | omega | (split <;> omega)) hr
theorem tw_addI {x y : Operand} {p q : Int} (hb : -9000000000000000000 ≤ p + q ∧ p + q ≤ 9000000000000000000) (hop : o.op = .binOp .add 3 x y 3) (hx : evalE E x = some (.int .i64 p)) (hy : evalE E y = some (.int .i64 q)) (hw : Wd ops o E true)
    (hr : wpT Tryz.prog ops w0 Fin rest (E.put o.dst (.inl (.int .i64 (p + q)))) (.inl (.int .i64 (p + q)) :: Ts)) : wpT Tryz.prog ops w0 Fin (o :: rest) E Ts :=
  tw_pure _ hw (fun a W hW hs => by
    have h1 : a.eval x = _ := evalE_of hx (by rw [hop]; simp [Op.operands]) hs
    have h2 : a.eval y = _ := evalE_of hy (by rw [hop]; simp [Op.operands]) hs
    unfold execOp
    simp only [hop, h1, h2]
    go_simp
    have hwr : IntKind.wrap .i64 (p + q) = p + q := by simp only [IntKind.wrap, IntKind.bits, IntKind.signed]; simp; split <;> omega
    rw [hwr]) hr
end
def GreatPost (v : List NodeL) (w : World) (e : Ending) (w' : World) : Prop :=
  ∃ g, e = .returned (.bool g) ∧ Below w.heap.size w w' ∧ (g = false → v.length ≤ 60 ∧ ∀ (i : Nat) (n : NodeL), i < v.length → v[i]? = some n → SmallN n)
theorem GreatPost.yes {v : List NodeL} {w w' : World} (h : Below w.heap.size w w') : GreatPost v w (.returned (.bool true)) w' := ⟨true, rfl, h, fun h => by cases h⟩
theorem GreatPost.no {v : List NodeL} {w w' : World} (h : Below w.heap.size w w') (h1 : v.length ≤ 60) (h2 : ∀ (i : Nat) (n : NodeL), i < v.length → v[i]? = some n → SmallN n) : GreatPost v w (.returned (.bool false)) w' := ⟨false, rfl, h, fun _ => ⟨h1, h2⟩⟩
set_option maxHeartbeats 16000000 in
set_option maxRecDepth 10000 in
theorem great_any (v : List NodeL) (A : Option Addr) (c : Nat) (w : World) (hr : RdV w w.heap.size A v) :
    Calls Tryz.prog 6 #[.slice A v.length c, .int .i64 60, .int .i64 2000] w (GreatPost v w) := by
  have HR := Lib.hid hr
  clear hr
  go_enter Tryz.func6, Tryz.ntmps6
  go_wp2
  go_loopw [7, 8, 9, 10] (fun s7 s8 _ _ wr => ∃ (k : Nat) (t : Int), (k ≤ v.length ∧ k ≤ 600) ∧ s7 = .int .i64 t ∧ s8 = .int .i64 k ∧ (0 ≤ t ∧ t ≤ k * 2000000) ∧ Hid (Below w.heap.size w wr) ∧ Hid (t ≤ 2000 → ∀ (i : Nat) (n : NodeL), i < k → v[i]? = some n → SmallN n)) (fun _ s8 _ _ _ => v.length - (intOf s8).toNat)
  case atStart => exact ⟨0, 0, ⟨Nat.zero_le _, Nat.zero_le _⟩, rfl, rfl, ⟨by omega, by omega⟩, Lib.hid (Below.refl _ _), Lib.hid (fun _ i n hi => absurd hi (by omega))⟩
  case round =>
    obtain ⟨k, t, ⟨hk, hk6⟩, rfl, rfl, ⟨ht0, ht1⟩, HB, HN⟩ := hrel
    by_cases hlt : k < v.length
    · by_cases h600 : k < 600
      · obtain ⟨n, hnn⟩ : ∃ n, v[k]? = some n := ⟨_, List.getElem?_eq_getElem hlt⟩
        have HNN := Lib.hid hnn
        obtain ⟨b, off, rfl, hb, hc⟩ := (HR.out.below HB.out (Nat.le_refl _)) (by omega)
        obtain ⟨d0, d1, d2, ⟨A3, c3, d3, hl3, hA3⟩, d4, d5⟩ := hc k n hnn
        have HA3 := Lib.hid (hA3.more HB.out.size)
        have hbr := Nat.lt_of_lt_of_le hb HB.out.size
        clear hc hnn d0 d5 hA3
        have G1 := Lib.hid (fun W (hW : Ext wr.drew W) => ((ext_below hW).cell (p := ⟨b, off + k * 6 + 1, none⟩) hbr).trans d1)
        have G2 := Lib.hid (fun W (hW : Ext wr.drew W) => ((ext_below hW).cell (p := ⟨b, off + k * 6 + 2, none⟩) hbr).trans d2)
        have G4 := Lib.hid (fun W (hW : Ext wr.drew W) => ((ext_below hW).cell (p := ⟨b, off + k * 6 + 4, none⟩) hbr).trans d4)
        have D3 := Lib.hid d3
        clear d1 d2 d3 d4
        have m1 := mn_bd n.name.size
        have m2 := mn_bd n.space.size
        have m3 := mn_bd n.text.size
        go_wp2
        refine wp_region_typed rfl (by kernel_rfl) (by kernel_rfl) ?_
        repeat (first | refine tw_ixN0 hlt rfl rfl rfl (by first | exact wd_none rfl | exact wd_yes rfl rfl rfl) ?_ | refine tw_ldS rfl rfl G1.out (by first | exact wd_none rfl | exact wd_yes rfl rfl rfl) ?_ | refine tw_ldS rfl rfl G2.out (by first | exact wd_none rfl | exact wd_yes rfl rfl rfl) ?_ | refine tw_ldS rfl rfl G4.out (by first | exact wd_none rfl | exact wd_yes rfl rfl rfl) ?_ | refine tw_lens rfl rfl (by first | exact wd_none rfl | exact wd_yes rfl rfl rfl) ?_ | refine tw_min20 _ rfl rfl (by first | exact wd_none rfl | exact wd_yes rfl rfl rfl) ?_ | refine tw_addI (by omega) rfl rfl rfl (by first | exact wd_none rfl | exact wd_yes rfl rfl rfl) ?_ | refine tw_skip (wd_no rfl rfl rfl) ?_ | refine tw_mv (.inl rfl) rfl (by first | exact wd_none rfl | exact wd_yes rfl rfl rfl) ?_ | refine tw_mv (.inr rfl) rfl (by first | exact wd_none rfl | exact wd_yes rfl rfl rfl) ?_ | refine tw_pickL rfl rfl rfl (by first | exact wd_none rfl | exact wd_yes rfl rfl rfl) ?_ | refine tw_op1 _ rfl rfl (by first | exact wd_none rfl | exact wd_yes rfl rfl rfl) (fun ρ W hW h1 => by simp only [execOp, h1]; go_simp; first | done | rfl) ?_ | refine tw_op2 _ rfl rfl rfl (by first | exact wd_none rfl | exact wd_yes rfl rfl rfl) (fun ρ W hW h1 h2 => by simp only [execOp, h1, h2]; go_simp; first | done | rfl) ?_)
        dsimp only [wpT, List.reverse, List.reverseAux, FinT]
        intro W7 hW7 _
        simp only [Act.put, List.setIfInBounds_toArray, List.set_cons_zero, List.set_cons_succ]
        have hb7 : Below wr.heap.size wr W7 := ext_below hW7
        have HB7 := Lib.hid (HB.out.trans (hb7.mono HB.out.size))
        have d3 := (hb7.cell (p := ⟨b, off + k * 6 + 3, none⟩) hbr).trans D3.out
        have HA7 := Lib.hid ((HA3.out.below hb7 (Nat.le_refl _)).more hb7.size)
        have hb77 := Nat.lt_of_lt_of_le hbr hb7.size
        clear hW7 hb7 G1 G2 G4 D3 HA3
        obtain ⟨t1, ht1'⟩ : ∃ t1, t1 = t + mn n.name.size + mn n.space.size + mn n.text.size := ⟨_, rfl⟩
        have HT1 := Lib.hid ht1'
        have q1 : 0 ≤ t1 ∧ t ≤ t1 ∧ t1 ≤ k * 2000000 + 60000 := by omega
        rw [← ht1']
        clear ht1'
        by_cases h30 : 30 < n.attrs.length
        · have h30i : (30 : Int) < (n.attrs.length : Int) := by omega
          go_wp2
          go_ret
          exact GreatPost.yes HB7.out
        · have h30i : ¬ (30 : Int) < (n.attrs.length : Int) := by omega
          by_cases h2k : 2000 < t1
          · go_wp2
            go_ret
            exact GreatPost.yes HB7.out
          · have hsm : n.space.size ≤ 2000 ∧ n.name.size ≤ 2000 ∧ n.text.size ≤ 2000 := by
              have := HT1.out
              exact ⟨mn_le (by omega), mn_le (by omega), mn_le (by omega)⟩
            clear m1 m2 m3
            go_wp2
            go_loopw [7, 9, 10] (fun s7 s9 _ wi => ∃ (j : Nat) (t2 : Int), j ≤ n.attrs.length ∧ s7 = .int .i64 t2 ∧ s9 = .int .i64 j ∧ (t1 ≤ t2 ∧ t2 ≤ t1 + j * 60000) ∧ Hid (Below W7.heap.size W7 wi) ∧ Hid (t2 ≤ 2000 → ∀ (i : Nat) (a : AttrL), i < j → n.attrs[i]? = some a → SzA 2000 a)) (fun _ s9 _ _ => n.attrs.length - (intOf s9).toNat)
            case atStart => exact ⟨0, t1, Nat.zero_le _, rfl, rfl, ⟨by omega, by omega⟩, Lib.hid (Below.refl _ _), Lib.hid (fun _ i a hi => absurd hi (by omega))⟩
            case round =>
              obtain ⟨j, t2, hj, rfl, rfl, ⟨hu0, hu1⟩, HBI, HNI⟩ := hrel
              have e3 := (HBI.out.cell (p := ⟨b, off + k * 6 + 3, none⟩) hb77).trans d3
              by_cases hlj : j < n.attrs.length
              · obtain ⟨a, ha⟩ : ∃ a, n.attrs[j]? = some a := ⟨_, List.getElem?_eq_getElem hlj⟩
                have HA := Lib.hid ha
                obtain ⟨b3, o3, rfl, hb3, hc3⟩ := HA7.out (by omega)
                obtain ⟨f0, f1, f2⟩ := hc3 j a ha
                have g0 := (HBI.out.cell (p := ⟨b3, o3 + j * 3, none⟩) hb3).trans f0
                have g1 := (HBI.out.cell (p := ⟨b3, o3 + j * 3 + 1, none⟩) hb3).trans f1
                have g2 := (HBI.out.cell (p := ⟨b3, o3 + j * 3 + 2, none⟩) hb3).trans f2
                have HXI := Lib.hid (HBI.out.alloc HBI.out.size (.cells #[.string a.space, .string a.name, .string a.value] 75))
                have m1 := mn_bd a.name.size
                have m2 := mn_bd a.space.size
                have m3 := mn_bd a.value.size
                have HNJ : Hid (t2 + mn a.name.size + mn a.space.size + mn a.value.size ≤ 2000 → ∀ (i : Nat) (x : AttrL), i < j + 1 → n.attrs[i]? = some x → SzA 2000 x) := Lib.hid (fun h i x hi hx => by
                  rcases Nat.lt_or_ge i j with h1 | h1
                  · exact HNI.out (by omega) i x h1 hx
                  · obtain rfl : i = j := by omega
                    rw [HA.out] at hx
                    simp only [Option.some.injEq] at hx
                    subst hx
                    exact ⟨mn_le (by omega), mn_le (by omega), mn_le (by omega)⟩)
                clear f0 f1 f2 hc3 ha
                unfold mn at *
                go_wp2
                go_roundw
                case rel => exact ⟨j + 1, t2 + min (a.name.size : Int) 20000 + min (a.space.size : Int) 20000 + min (a.value.size : Int) 20000, by omega, by go_num, by go_num, ⟨by omega, by omega⟩, HXI, HNJ⟩
                case measure => simp [intOf]; omega
              · obtain rfl : j = n.attrs.length := by omega
                have HBO := Lib.hid (HB7.out.trans (HBI.out.mono HB7.out.size))
                have HNO : Hid (t2 ≤ 2000 → ∀ (i : Nat) (x : NodeL), i < k + 1 → v[i]? = some x → SmallN x) := Lib.hid (fun h i x hi hx => by
                  rcases Nat.lt_or_ge i k with h1 | h1
                  · exact HN.out (by omega) i x h1 hx
                  · obtain rfl : i = k := by omega
                    rw [HNN.out] at hx
                    simp only [Option.some.injEq] at hx
                    subst hx
                    exact ⟨hsm.1, hsm.2.1, hsm.2.2, by omega, HNI.out h⟩)
                go_wp2
                go_roundw
                case rel => exact ⟨k + 1, t2, ⟨by omega, by omega⟩, rfl, by go_num, ⟨by omega, by omega⟩, HBO, HNO⟩
                case measure => simp [intOf]; omega
      · obtain rfl : k = 600 := by omega
        have h60 : (60 : Int) < (v.length : Int) := by omega
        go_wp2
        go_ret
        exact GreatPost.yes HB.out
    · obtain rfl : k = v.length := by omega
      by_cases h60 : (60 : Int) < (v.length : Int)
      · go_wp2
        go_ret
        exact GreatPost.yes HB.out
      · by_cases h2k : 2000 < t
        · go_wp2
          go_ret
          exact GreatPost.yes HB.out
        · go_wp2
          go_ret
          exact GreatPost.no HB.out (by omega) (HN.out (by omega))
end Go.Proofs.YtnmnpnofdgdigaaGreatDoor
end
