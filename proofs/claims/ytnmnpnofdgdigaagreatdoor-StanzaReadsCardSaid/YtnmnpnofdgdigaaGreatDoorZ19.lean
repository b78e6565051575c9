import Derived.Test.YtnmnpnofdgdigaaGreatDoorZ17
import Derived.Test.YtnmnpnofdgdigaaGreatDoorZ18
set_option linter.all false
section
/- Layer 10 (tree): may a node be? The program's and the document's. (Printed by gen_may.py) -/
namespace Go.Proofs.YtnmnpnofdgdigaaGreatDoor
open Go.RowKit
set_option linter.unusedSimpArgs false
set_option linter.unusedVariables false
theorem emp_is (s : ByteArray) : s.toList.isEmpty = isEmp s := by
  unfold isEmp
  rcases Nat.eq_zero_or_pos s.size with h | h
  · rw [str_em s h, decide_eq_true h]
  · rw [str_ne s h, decide_eq_false (by omega)]
set_option maxHeartbeats 4000000 in
set_option maxRecDepth 10000 in
theorem may_node (n : NodeL) (A : Option Addr) (c : Nat) (w : World) (hr : RdA w w.heap.size A n.attrs) (hc : n.attrs.length ≤ c) (hz : SzN 1000000000 n) :
    Calls Tryz.prog 88 #[encN n A c] w fun e w' => e = .returned (.bool (nodeI n)) ∧ Below w.heap.size w w' := by
  obtain ⟨⟨k0, k1⟩, z1, z2, ⟨z3, zA⟩, z4, m0, m1⟩ := hz
  have HXA : Hid (Below w.heap.size w (w.alloc (.cells #[.int .u8 n.kind, .string n.space, .string n.name, .slice A n.attrs.length c, .string n.text, .int .i64 n.many] 36))) := (Below.refl _ w).alloc (Nat.le_refl _) _
  obtain ⟨W0, hW0⟩ : ∃ W0, W0 = w.alloc (.cells #[.int .u8 n.kind, .string n.space, .string n.name, .slice A n.attrs.length c, .string n.text, .int .i64 n.many] 36) := ⟨_, rfl⟩
  have HX0 := HXA
  rw [← hW0] at HX0
  have hs0 : w.heap.size < W0.heap.size := by rw [hW0]; simp
  have HD0 : Hid (∀ W, Below W0.heap.size W0 W → W.cell? ⟨w.heap.size, 0, none⟩ = some (.int .u8 n.kind)) := Lib.hid (fun W hW => (hW.cell hs0).trans (by rw [hW0]; simp))
  have HD1 : Hid (∀ W, Below W0.heap.size W0 W → W.cell? ⟨w.heap.size, 1, none⟩ = some (.string n.space)) := Lib.hid (fun W hW => (hW.cell hs0).trans (by rw [hW0]; simp))
  have HD2 : Hid (∀ W, Below W0.heap.size W0 W → W.cell? ⟨w.heap.size, 2, none⟩ = some (.string n.name)) := Lib.hid (fun W hW => (hW.cell hs0).trans (by rw [hW0]; simp))
  have HD3 : Hid (∀ W, Below W0.heap.size W0 W → W.cell? ⟨w.heap.size, 3, none⟩ = some (.slice A n.attrs.length c)) := Lib.hid (fun W hW => (hW.cell hs0).trans (by rw [hW0]; simp))
  have HD4 : Hid (∀ W, Below W0.heap.size W0 W → W.cell? ⟨w.heap.size, 4, none⟩ = some (.string n.text)) := Lib.hid (fun W hW => (hW.cell hs0).trans (by rw [hW0]; simp))
  have HD5 : Hid (∀ W, Below W0.heap.size W0 W → W.cell? ⟨w.heap.size, 5, none⟩ = some (.int .i64 n.many)) := Lib.hid (fun W hW => (hW.cell hs0).trans (by rw [hW0]; simp))
  have HRA := Lib.hid (fun W (hW : Below w.heap.size w W) => ((hr.below hW (Nat.le_refl _)).more hW.size))
  have HT := Lib.hid (fun W => check5_any n.text W z4)
  have HS := Lib.hid (fun W => check5_any n.space W z1)
  have HF := Lib.hid (fun W => full_any n.name W z2)
  have HA0 := Lib.hid (fun W (hW : Below w.heap.size w W) => attrs_any A c n.attrs W (HRA.out W hW) hc z3 zA)
  clear hr hc z1 z2 z3 zA z4
  unfold encN
  by_cases hk : n.kind = 2
  · have hk' : (n.kind == 2) = true := by rw [beq_iff_eq]; exact hk
    have HI : Box (nodeI n = ((isEmp n.name) && (isEmp n.space) && (decide (n.attrs.length = 0)) && (decide (n.many = 0)) && (!isEmp n.text) && (decide (textErr n.text = 0)))) := ⟨by unfold nodeI; rw [if_pos hk]⟩
    generalize nodeI n = ri at *
    generalize textErr n.text = t6 at *
    obtain ⟨q1, hqq1⟩ : ∃ q, (isEmp n.name) = q := ⟨_, rfl⟩
    rw [hqq1] at HI
    obtain ⟨q2, hqq2⟩ : ∃ q, (isEmp n.space) = q := ⟨_, rfl⟩
    rw [hqq2] at HI
    obtain ⟨q3, hqq3⟩ : ∃ q, (decide (n.attrs.length = 0)) = q := ⟨_, rfl⟩
    rw [hqq3] at HI
    obtain ⟨q4, hqq4⟩ : ∃ q, (decide (n.many = 0)) = q := ⟨_, rfl⟩
    rw [hqq4] at HI
    obtain ⟨q5, hqq5⟩ : ∃ q, (!isEmp n.text) = q := ⟨_, rfl⟩
    rw [hqq5] at HI
    obtain ⟨q6, hqq6⟩ : ∃ q, (decide (t6 = 0)) = q := ⟨_, rfl⟩
    rw [hqq6] at HI
    rw [hk] at HD0 hW0 HXA
    rw [hk]
    cases q1 with
    | false =>
      have fq1 : n.name.toList.isEmpty = false := (emp_is n.name).trans hqq1
      go_enter Tryz.func88, Tryz.ntmps88
      go_wp2
      go_ret
      exact ⟨ret_bool (by rw [HI.out]; rfl), HXA.out⟩
    | true =>
      have fq1 : n.name.toList.isEmpty = true := (emp_is n.name).trans hqq1
      cases q2 with
      | false =>
        have fq2 : n.space.toList.isEmpty = false := (emp_is n.space).trans hqq2
        go_enter Tryz.func88, Tryz.ntmps88
        go_wp2
        go_ret
        exact ⟨ret_bool (by rw [HI.out]; rfl), HXA.out⟩
      | true =>
        have fq2 : n.space.toList.isEmpty = true := (emp_is n.space).trans hqq2
        cases q3 with
        | false =>
          have fq3 : ((n.attrs.length : Int) == 0) = false := by have := of_decide_eq_false hqq3; rw [beq_eq_false_iff_ne]; omega
          go_enter Tryz.func88, Tryz.ntmps88
          go_wp2
          go_ret
          exact ⟨ret_bool (by rw [HI.out]; rfl), HXA.out⟩
        | true =>
          have fq3 : (n.attrs.length : Int) = 0 := by have := of_decide_eq_true hqq3; omega
          cases q4 with
          | false =>
            have fq4 : (n.many == 0) = false := by have := of_decide_eq_false hqq4; rw [beq_eq_false_iff_ne]; omega
            go_enter Tryz.func88, Tryz.ntmps88
            go_wp2
            go_ret
            exact ⟨ret_bool (by rw [HI.out]; rfl), HXA.out⟩
          | true =>
            have fq4 : n.many = 0 := by have := of_decide_eq_true hqq4; omega
            rw [fq4] at HD5 hW0 HXA
            cases q5 with
            | false =>
              have fq5 : n.text.toList.isEmpty = true := (emp_is n.text).trans (by rw [← Bool.not_not (isEmp n.text), hqq5]; rfl)
              go_enter Tryz.func88, Tryz.ntmps88
              go_wp2
              go_ret
              exact ⟨ret_bool (by rw [HI.out]; rfl), HXA.out⟩
            | true =>
              have fq5 : n.text.toList.isEmpty = false := (emp_is n.text).trans (by rw [← Bool.not_not (isEmp n.text), hqq5]; rfl)
              cases q6 with
              | false =>
                have fq6 : (t6 == 0) = false := by rw [beq_eq_false_iff_ne]; exact of_decide_eq_false hqq6
                go_enter Tryz.func88, Tryz.ntmps88
                go_wp2_with fail
                rw [← hW0]
                refine (HT.out _).mono ?_
                rintro e w1 ⟨rfl, hb1⟩
                have X1 : Hid (Below W0.heap.size W0 w1) := Lib.hid (ext_step (Below.refl W0.heap.size W0) (by first | exact Below.refl _ _ | exact (Below.refl _ _).alloc (Nat.le_refl _) _ | exact ((Below.refl _ _).alloc (Nat.le_refl _) _).alloc (by simp) _ | exact (((Below.refl _ _).alloc (Nat.le_refl _) _).alloc (by simp) _).alloc (by simp) _ | exact (Below.refl _ _).drew | exact ((Below.refl _ _).alloc (Nat.le_refl _) _).drew) hb1 (Below.refl W0.heap.size W0).size)
                clear hb1
                try clear d0 d1 d2 d3 d4 d5
                have d0 := HD0.out _ X1.out
                have d1 := HD1.out _ X1.out
                have d2 := HD2.out _ X1.out
                have d3 := HD3.out _ X1.out
                have d4 := HD4.out _ X1.out
                have d5 := HD5.out _ X1.out
                go_wp2
                go_ret
                exact ⟨ret_bool (by rw [HI.out]; rfl), HX0.out.trans (X1.out.mono HX0.out.size)⟩
              | true =>
                have fq6 : t6 = 0 := of_decide_eq_true hqq6
                subst fq6
                go_enter Tryz.func88, Tryz.ntmps88
                go_wp2_with fail
                rw [← hW0]
                refine (HT.out _).mono ?_
                rintro e w1 ⟨rfl, hb1⟩
                have X1 : Hid (Below W0.heap.size W0 w1) := Lib.hid (ext_step (Below.refl W0.heap.size W0) (by first | exact Below.refl _ _ | exact (Below.refl _ _).alloc (Nat.le_refl _) _ | exact ((Below.refl _ _).alloc (Nat.le_refl _) _).alloc (by simp) _ | exact (((Below.refl _ _).alloc (Nat.le_refl _) _).alloc (by simp) _).alloc (by simp) _ | exact (Below.refl _ _).drew | exact ((Below.refl _ _).alloc (Nat.le_refl _) _).drew) hb1 (Below.refl W0.heap.size W0).size)
                clear hb1
                try clear d0 d1 d2 d3 d4 d5
                have d0 := HD0.out _ X1.out
                have d1 := HD1.out _ X1.out
                have d2 := HD2.out _ X1.out
                have d3 := HD3.out _ X1.out
                have d4 := HD4.out _ X1.out
                have d5 := HD5.out _ X1.out
                go_wp2
                go_ret
                exact ⟨ret_bool (by rw [HI.out]; rfl), HX0.out.trans (X1.out.mono HX0.out.size)⟩
  · have hk' : (n.kind == 2) = false := by rw [beq_eq_false_iff_ne]; exact hk
    have HI : Box (nodeI n = ((decide (n.kind = 1)) && (isEmp n.text) && (fullI n.name) && (decide (textErr n.space = 0)) && (attrsI n.attrs))) := ⟨by unfold nodeI; rw [if_neg hk]⟩
    generalize nodeI n = ri at *
    generalize fullI n.name = p2 at *
    generalize textErr n.space = t3 at *
    generalize attrsI n.attrs = p4 at *
    obtain ⟨p0, hqp0⟩ : ∃ q, (decide (n.kind = 1)) = q := ⟨_, rfl⟩
    rw [hqp0] at HI
    obtain ⟨p1, hqp1⟩ : ∃ q, (isEmp n.text) = q := ⟨_, rfl⟩
    rw [hqp1] at HI
    obtain ⟨p3, hqp3⟩ : ∃ q, (decide (t3 = 0)) = q := ⟨_, rfl⟩
    rw [hqp3] at HI
    cases p0 with
    | false =>
      have fp0 : (n.kind == 1) = false := by rw [beq_eq_false_iff_ne]; exact of_decide_eq_false hqp0
      go_enter Tryz.func88, Tryz.ntmps88
      go_wp2
      go_ret
      exact ⟨ret_bool (by rw [HI.out]; rfl), HXA.out⟩
    | true =>
      have fp0 : n.kind = 1 := of_decide_eq_true hqp0
      rw [fp0] at HD0 hW0 HXA
      rw [fp0]
      cases p1 with
      | false =>
        have fp1 : n.text.toList.isEmpty = false := (emp_is n.text).trans hqp1
        go_enter Tryz.func88, Tryz.ntmps88
        go_wp2
        go_ret
        exact ⟨ret_bool (by rw [HI.out]; rfl), HXA.out⟩
      | true =>
        have fp1 : n.text.toList.isEmpty = true := (emp_is n.text).trans hqp1
        cases p2 with
        | false =>
          go_enter Tryz.func88, Tryz.ntmps88
          go_wp2_with fail
          rw [← hW0]
          refine (HF.out _).mono ?_
          rintro e w1 ⟨rfl, hb1⟩
          have X1 : Hid (Below W0.heap.size W0 w1) := Lib.hid (ext_step (Below.refl W0.heap.size W0) (by first | exact Below.refl _ _ | exact (Below.refl _ _).alloc (Nat.le_refl _) _ | exact ((Below.refl _ _).alloc (Nat.le_refl _) _).alloc (by simp) _ | exact (((Below.refl _ _).alloc (Nat.le_refl _) _).alloc (by simp) _).alloc (by simp) _ | exact (Below.refl _ _).drew | exact ((Below.refl _ _).alloc (Nat.le_refl _) _).drew) hb1 (Below.refl W0.heap.size W0).size)
          clear hb1
          try clear d0 d1 d2 d3 d4 d5
          have d0 := HD0.out _ X1.out
          have d1 := HD1.out _ X1.out
          have d2 := HD2.out _ X1.out
          have d3 := HD3.out _ X1.out
          have d4 := HD4.out _ X1.out
          have d5 := HD5.out _ X1.out
          go_wp2
          go_ret
          exact ⟨ret_bool (by rw [HI.out]; rfl), HX0.out.trans (X1.out.mono HX0.out.size)⟩
        | true =>
          cases p3 with
          | false =>
            have fp3 : (t3 == 0) = false := by rw [beq_eq_false_iff_ne]; exact of_decide_eq_false hqp3
            go_enter Tryz.func88, Tryz.ntmps88
            go_wp2_with fail
            rw [← hW0]
            refine (HF.out _).mono ?_
            rintro e w1 ⟨rfl, hb1⟩
            have X1 : Hid (Below W0.heap.size W0 w1) := Lib.hid (ext_step (Below.refl W0.heap.size W0) (by first | exact Below.refl _ _ | exact (Below.refl _ _).alloc (Nat.le_refl _) _ | exact ((Below.refl _ _).alloc (Nat.le_refl _) _).alloc (by simp) _ | exact (((Below.refl _ _).alloc (Nat.le_refl _) _).alloc (by simp) _).alloc (by simp) _ | exact (Below.refl _ _).drew | exact ((Below.refl _ _).alloc (Nat.le_refl _) _).drew) hb1 (Below.refl W0.heap.size W0).size)
            clear hb1
            try clear d0 d1 d2 d3 d4 d5
            have d0 := HD0.out _ X1.out
            have d1 := HD1.out _ X1.out
            have d2 := HD2.out _ X1.out
            have d3 := HD3.out _ X1.out
            have d4 := HD4.out _ X1.out
            have d5 := HD5.out _ X1.out
            go_wp2_with fail
            refine (HS.out _).mono ?_
            rintro e w2 ⟨rfl, hb2⟩
            have X2 : Hid (Below W0.heap.size W0 w2) := Lib.hid (ext_step (X1.out) (by first | exact Below.refl _ _ | exact (Below.refl _ _).alloc (Nat.le_refl _) _ | exact ((Below.refl _ _).alloc (Nat.le_refl _) _).alloc (by simp) _ | exact (((Below.refl _ _).alloc (Nat.le_refl _) _).alloc (by simp) _).alloc (by simp) _ | exact (Below.refl _ _).drew | exact ((Below.refl _ _).alloc (Nat.le_refl _) _).drew) hb2 (X1.out).size)
            clear hb2
            try clear d0 d1 d2 d3 d4 d5
            have d0 := HD0.out _ X2.out
            have d1 := HD1.out _ X2.out
            have d2 := HD2.out _ X2.out
            have d3 := HD3.out _ X2.out
            have d4 := HD4.out _ X2.out
            have d5 := HD5.out _ X2.out
            go_wp2
            go_ret
            exact ⟨ret_bool (by rw [HI.out]; rfl), HX0.out.trans (X2.out.mono HX0.out.size)⟩
          | true =>
            have fp3 : t3 = 0 := of_decide_eq_true hqp3
            subst fp3
            cases p4 with
            | false =>
              go_enter Tryz.func88, Tryz.ntmps88
              go_wp2_with fail
              rw [← hW0]
              refine (HF.out _).mono ?_
              rintro e w1 ⟨rfl, hb1⟩
              have X1 : Hid (Below W0.heap.size W0 w1) := Lib.hid (ext_step (Below.refl W0.heap.size W0) (by first | exact Below.refl _ _ | exact (Below.refl _ _).alloc (Nat.le_refl _) _ | exact ((Below.refl _ _).alloc (Nat.le_refl _) _).alloc (by simp) _ | exact (((Below.refl _ _).alloc (Nat.le_refl _) _).alloc (by simp) _).alloc (by simp) _ | exact (Below.refl _ _).drew | exact ((Below.refl _ _).alloc (Nat.le_refl _) _).drew) hb1 (Below.refl W0.heap.size W0).size)
              clear hb1
              try clear d0 d1 d2 d3 d4 d5
              have d0 := HD0.out _ X1.out
              have d1 := HD1.out _ X1.out
              have d2 := HD2.out _ X1.out
              have d3 := HD3.out _ X1.out
              have d4 := HD4.out _ X1.out
              have d5 := HD5.out _ X1.out
              go_wp2_with fail
              refine (HS.out _).mono ?_
              rintro e w2 ⟨rfl, hb2⟩
              have X2 : Hid (Below W0.heap.size W0 w2) := Lib.hid (ext_step (X1.out) (by first | exact Below.refl _ _ | exact (Below.refl _ _).alloc (Nat.le_refl _) _ | exact ((Below.refl _ _).alloc (Nat.le_refl _) _).alloc (by simp) _ | exact (((Below.refl _ _).alloc (Nat.le_refl _) _).alloc (by simp) _).alloc (by simp) _ | exact (Below.refl _ _).drew | exact ((Below.refl _ _).alloc (Nat.le_refl _) _).drew) hb2 (X1.out).size)
              clear hb2
              try clear d0 d1 d2 d3 d4 d5
              have d0 := HD0.out _ X2.out
              have d1 := HD1.out _ X2.out
              have d2 := HD2.out _ X2.out
              have d3 := HD3.out _ X2.out
              have d4 := HD4.out _ X2.out
              have d5 := HD5.out _ X2.out
              go_wp2_with fail
              refine (HA0.out _ (HX0.out.trans (X2.out.mono HX0.out.size))).mono ?_
              rintro e w3 ⟨rfl, hb3⟩
              have X3 : Hid (Below W0.heap.size W0 w3) := Lib.hid (ext_step (X2.out) (by first | exact Below.refl _ _ | exact (Below.refl _ _).alloc (Nat.le_refl _) _ | exact ((Below.refl _ _).alloc (Nat.le_refl _) _).alloc (by simp) _ | exact (((Below.refl _ _).alloc (Nat.le_refl _) _).alloc (by simp) _).alloc (by simp) _ | exact (Below.refl _ _).drew | exact ((Below.refl _ _).alloc (Nat.le_refl _) _).drew) hb3 (X2.out).size)
              clear hb3
              try clear d0 d1 d2 d3 d4 d5
              have d0 := HD0.out _ X3.out
              have d1 := HD1.out _ X3.out
              have d2 := HD2.out _ X3.out
              have d3 := HD3.out _ X3.out
              have d4 := HD4.out _ X3.out
              have d5 := HD5.out _ X3.out
              go_wp2
              go_ret
              exact ⟨ret_bool (by rw [HI.out]; rfl), HX0.out.trans (X3.out.mono HX0.out.size)⟩
            | true =>
              go_enter Tryz.func88, Tryz.ntmps88
              go_wp2_with fail
              rw [← hW0]
              refine (HF.out _).mono ?_
              rintro e w1 ⟨rfl, hb1⟩
              have X1 : Hid (Below W0.heap.size W0 w1) := Lib.hid (ext_step (Below.refl W0.heap.size W0) (by first | exact Below.refl _ _ | exact (Below.refl _ _).alloc (Nat.le_refl _) _ | exact ((Below.refl _ _).alloc (Nat.le_refl _) _).alloc (by simp) _ | exact (((Below.refl _ _).alloc (Nat.le_refl _) _).alloc (by simp) _).alloc (by simp) _ | exact (Below.refl _ _).drew | exact ((Below.refl _ _).alloc (Nat.le_refl _) _).drew) hb1 (Below.refl W0.heap.size W0).size)
              clear hb1
              try clear d0 d1 d2 d3 d4 d5
              have d0 := HD0.out _ X1.out
              have d1 := HD1.out _ X1.out
              have d2 := HD2.out _ X1.out
              have d3 := HD3.out _ X1.out
              have d4 := HD4.out _ X1.out
              have d5 := HD5.out _ X1.out
              go_wp2_with fail
              refine (HS.out _).mono ?_
              rintro e w2 ⟨rfl, hb2⟩
              have X2 : Hid (Below W0.heap.size W0 w2) := Lib.hid (ext_step (X1.out) (by first | exact Below.refl _ _ | exact (Below.refl _ _).alloc (Nat.le_refl _) _ | exact ((Below.refl _ _).alloc (Nat.le_refl _) _).alloc (by simp) _ | exact (((Below.refl _ _).alloc (Nat.le_refl _) _).alloc (by simp) _).alloc (by simp) _ | exact (Below.refl _ _).drew | exact ((Below.refl _ _).alloc (Nat.le_refl _) _).drew) hb2 (X1.out).size)
              clear hb2
              try clear d0 d1 d2 d3 d4 d5
              have d0 := HD0.out _ X2.out
              have d1 := HD1.out _ X2.out
              have d2 := HD2.out _ X2.out
              have d3 := HD3.out _ X2.out
              have d4 := HD4.out _ X2.out
              have d5 := HD5.out _ X2.out
              go_wp2_with fail
              refine (HA0.out _ (HX0.out.trans (X2.out.mono HX0.out.size))).mono ?_
              rintro e w3 ⟨rfl, hb3⟩
              have X3 : Hid (Below W0.heap.size W0 w3) := Lib.hid (ext_step (X2.out) (by first | exact Below.refl _ _ | exact (Below.refl _ _).alloc (Nat.le_refl _) _ | exact ((Below.refl _ _).alloc (Nat.le_refl _) _).alloc (by simp) _ | exact (((Below.refl _ _).alloc (Nat.le_refl _) _).alloc (by simp) _).alloc (by simp) _ | exact (Below.refl _ _).drew | exact ((Below.refl _ _).alloc (Nat.le_refl _) _).drew) hb3 (X2.out).size)
              clear hb3
              try clear d0 d1 d2 d3 d4 d5
              have d0 := HD0.out _ X3.out
              have d1 := HD1.out _ X3.out
              have d2 := HD2.out _ X3.out
              have d3 := HD3.out _ X3.out
              have d4 := HD4.out _ X3.out
              have d5 := HD5.out _ X3.out
              go_wp2
              go_ret
              exact ⟨ret_bool (by rw [HI.out]; rfl), HX0.out.trans (X3.out.mono HX0.out.size)⟩
set_option maxHeartbeats 4000000 in
set_option maxRecDepth 10000 in
theorem refmay_node (n : NodeL) (A : Option Addr) (c : Nat) (w : World) (hr : RdA w w.heap.size A n.attrs) (hc : n.attrs.length ≤ c) (hz : SzN 1000000000 n) :
    Calls Tryz.prog 151 #[encN n A c] w fun e w' => e = .returned (.bool (nodeI n)) ∧ Below w.heap.size w w' := by
  obtain ⟨⟨k0, k1⟩, z1, z2, ⟨z3, zA⟩, z4, m0, m1⟩ := hz
  have HXA : Hid (Below w.heap.size w (w.alloc (.cells #[.int .u8 n.kind, .string n.space, .string n.name, .slice A n.attrs.length c, .string n.text, .int .i64 n.many] 36))) := (Below.refl _ w).alloc (Nat.le_refl _) _
  obtain ⟨W0, hW0⟩ : ∃ W0, W0 = w.alloc (.cells #[.int .u8 n.kind, .string n.space, .string n.name, .slice A n.attrs.length c, .string n.text, .int .i64 n.many] 36) := ⟨_, rfl⟩
  have HX0 := HXA
  rw [← hW0] at HX0
  have hs0 : w.heap.size < W0.heap.size := by rw [hW0]; simp
  have HD0 : Hid (∀ W, Below W0.heap.size W0 W → W.cell? ⟨w.heap.size, 0, none⟩ = some (.int .u8 n.kind)) := Lib.hid (fun W hW => (hW.cell hs0).trans (by rw [hW0]; simp))
  have HD1 : Hid (∀ W, Below W0.heap.size W0 W → W.cell? ⟨w.heap.size, 1, none⟩ = some (.string n.space)) := Lib.hid (fun W hW => (hW.cell hs0).trans (by rw [hW0]; simp))
  have HD2 : Hid (∀ W, Below W0.heap.size W0 W → W.cell? ⟨w.heap.size, 2, none⟩ = some (.string n.name)) := Lib.hid (fun W hW => (hW.cell hs0).trans (by rw [hW0]; simp))
  have HD3 : Hid (∀ W, Below W0.heap.size W0 W → W.cell? ⟨w.heap.size, 3, none⟩ = some (.slice A n.attrs.length c)) := Lib.hid (fun W hW => (hW.cell hs0).trans (by rw [hW0]; simp))
  have HD4 : Hid (∀ W, Below W0.heap.size W0 W → W.cell? ⟨w.heap.size, 4, none⟩ = some (.string n.text)) := Lib.hid (fun W hW => (hW.cell hs0).trans (by rw [hW0]; simp))
  have HD5 : Hid (∀ W, Below W0.heap.size W0 W → W.cell? ⟨w.heap.size, 5, none⟩ = some (.int .i64 n.many)) := Lib.hid (fun W hW => (hW.cell hs0).trans (by rw [hW0]; simp))
  have HRA := Lib.hid (fun W (hW : Below w.heap.size w W) => ((hr.below hW (Nat.le_refl _)).more hW.size))
  have HT := Lib.hid (fun W => refcheck5_any n.text W z4)
  have HS := Lib.hid (fun W => refcheck5_any n.space W z1)
  have HF := Lib.hid (fun W => reffull_any n.name W z2)
  have HA0 := Lib.hid (fun W (hW : Below w.heap.size w W) => refattrs_any A c n.attrs W (HRA.out W hW) hc z3 zA)
  clear hr hc z1 z2 z3 zA z4
  unfold encN
  by_cases hk : n.kind = 1
  · have hk' : (n.kind == 1) = true := by rw [beq_iff_eq]; exact hk
    have HI : Box (nodeI n = ((fullI n.name) && (isEmp n.text) && (decide (textErr n.space = 0)) && (attrsI n.attrs))) := ⟨by unfold nodeI; rw [if_neg (by omega), decide_eq_true hk, Bool.true_and, Bool.and_comm (isEmp n.text)]⟩
    generalize nodeI n = ri at *
    generalize fullI n.name = p2 at *
    generalize textErr n.space = t3 at *
    generalize attrsI n.attrs = p4 at *
    obtain ⟨p1, hqp1⟩ : ∃ q, (isEmp n.text) = q := ⟨_, rfl⟩
    rw [hqp1] at HI
    obtain ⟨p3, hqp3⟩ : ∃ q, (decide (t3 = 0)) = q := ⟨_, rfl⟩
    rw [hqp3] at HI
    rw [hk] at HD0 hW0 HXA
    rw [hk]
    cases p2 with
    | false =>
      go_enter Tryz.func151, Tryz.ntmps151
      go_wp2_with fail
      rw [← hW0]
      refine (HF.out _).mono ?_
      rintro e w1 ⟨rfl, hb1⟩
      have X1 : Hid (Below W0.heap.size W0 w1) := Lib.hid (ext_step (Below.refl W0.heap.size W0) (by first | exact Below.refl _ _ | exact (Below.refl _ _).alloc (Nat.le_refl _) _ | exact ((Below.refl _ _).alloc (Nat.le_refl _) _).alloc (by simp) _ | exact (((Below.refl _ _).alloc (Nat.le_refl _) _).alloc (by simp) _).alloc (by simp) _ | exact (Below.refl _ _).drew | exact ((Below.refl _ _).alloc (Nat.le_refl _) _).drew) hb1 (Below.refl W0.heap.size W0).size)
      clear hb1
      try clear d0 d1 d2 d3 d4 d5
      have d0 := HD0.out _ X1.out
      have d1 := HD1.out _ X1.out
      have d2 := HD2.out _ X1.out
      have d3 := HD3.out _ X1.out
      have d4 := HD4.out _ X1.out
      have d5 := HD5.out _ X1.out
      go_wp2
      go_ret
      exact ⟨ret_bool (by rw [HI.out]; rfl), HX0.out.trans (X1.out.mono HX0.out.size)⟩
    | true =>
      cases p1 with
      | false =>
        have fp1 : n.text.toList.isEmpty = false := (emp_is n.text).trans hqp1
        go_enter Tryz.func151, Tryz.ntmps151
        go_wp2_with fail
        rw [← hW0]
        refine (HF.out _).mono ?_
        rintro e w1 ⟨rfl, hb1⟩
        have X1 : Hid (Below W0.heap.size W0 w1) := Lib.hid (ext_step (Below.refl W0.heap.size W0) (by first | exact Below.refl _ _ | exact (Below.refl _ _).alloc (Nat.le_refl _) _ | exact ((Below.refl _ _).alloc (Nat.le_refl _) _).alloc (by simp) _ | exact (((Below.refl _ _).alloc (Nat.le_refl _) _).alloc (by simp) _).alloc (by simp) _ | exact (Below.refl _ _).drew | exact ((Below.refl _ _).alloc (Nat.le_refl _) _).drew) hb1 (Below.refl W0.heap.size W0).size)
        clear hb1
        try clear d0 d1 d2 d3 d4 d5
        have d0 := HD0.out _ X1.out
        have d1 := HD1.out _ X1.out
        have d2 := HD2.out _ X1.out
        have d3 := HD3.out _ X1.out
        have d4 := HD4.out _ X1.out
        have d5 := HD5.out _ X1.out
        go_wp2
        go_ret
        exact ⟨ret_bool (by rw [HI.out]; rfl), HX0.out.trans (X1.out.mono HX0.out.size)⟩
      | true =>
        have fp1 : n.text.toList.isEmpty = true := (emp_is n.text).trans hqp1
        cases p3 with
        | false =>
          have fp3 : (t3 == 0) = false := by rw [beq_eq_false_iff_ne]; exact of_decide_eq_false hqp3
          go_enter Tryz.func151, Tryz.ntmps151
          go_wp2_with fail
          rw [← hW0]
          refine (HF.out _).mono ?_
          rintro e w1 ⟨rfl, hb1⟩
          have X1 : Hid (Below W0.heap.size W0 w1) := Lib.hid (ext_step (Below.refl W0.heap.size W0) (by first | exact Below.refl _ _ | exact (Below.refl _ _).alloc (Nat.le_refl _) _ | exact ((Below.refl _ _).alloc (Nat.le_refl _) _).alloc (by simp) _ | exact (((Below.refl _ _).alloc (Nat.le_refl _) _).alloc (by simp) _).alloc (by simp) _ | exact (Below.refl _ _).drew | exact ((Below.refl _ _).alloc (Nat.le_refl _) _).drew) hb1 (Below.refl W0.heap.size W0).size)
          clear hb1
          try clear d0 d1 d2 d3 d4 d5
          have d0 := HD0.out _ X1.out
          have d1 := HD1.out _ X1.out
          have d2 := HD2.out _ X1.out
          have d3 := HD3.out _ X1.out
          have d4 := HD4.out _ X1.out
          have d5 := HD5.out _ X1.out
          go_wp2_with fail
          refine (HS.out _).mono ?_
          rintro e w2 ⟨rfl, hb2⟩
          have X2 : Hid (Below W0.heap.size W0 w2) := Lib.hid (ext_step (X1.out) (by first | exact Below.refl _ _ | exact (Below.refl _ _).alloc (Nat.le_refl _) _ | exact ((Below.refl _ _).alloc (Nat.le_refl _) _).alloc (by simp) _ | exact (((Below.refl _ _).alloc (Nat.le_refl _) _).alloc (by simp) _).alloc (by simp) _ | exact (Below.refl _ _).drew | exact ((Below.refl _ _).alloc (Nat.le_refl _) _).drew) hb2 (X1.out).size)
          clear hb2
          try clear d0 d1 d2 d3 d4 d5
          have d0 := HD0.out _ X2.out
          have d1 := HD1.out _ X2.out
          have d2 := HD2.out _ X2.out
          have d3 := HD3.out _ X2.out
          have d4 := HD4.out _ X2.out
          have d5 := HD5.out _ X2.out
          go_wp2
          go_ret
          exact ⟨ret_bool (by rw [HI.out]; rfl), HX0.out.trans (X2.out.mono HX0.out.size)⟩
        | true =>
          have fp3 : t3 = 0 := of_decide_eq_true hqp3
          subst fp3
          cases p4 with
          | false =>
            go_enter Tryz.func151, Tryz.ntmps151
            go_wp2_with fail
            rw [← hW0]
            refine (HF.out _).mono ?_
            rintro e w1 ⟨rfl, hb1⟩
            have X1 : Hid (Below W0.heap.size W0 w1) := Lib.hid (ext_step (Below.refl W0.heap.size W0) (by first | exact Below.refl _ _ | exact (Below.refl _ _).alloc (Nat.le_refl _) _ | exact ((Below.refl _ _).alloc (Nat.le_refl _) _).alloc (by simp) _ | exact (((Below.refl _ _).alloc (Nat.le_refl _) _).alloc (by simp) _).alloc (by simp) _ | exact (Below.refl _ _).drew | exact ((Below.refl _ _).alloc (Nat.le_refl _) _).drew) hb1 (Below.refl W0.heap.size W0).size)
            clear hb1
            try clear d0 d1 d2 d3 d4 d5
            have d0 := HD0.out _ X1.out
            have d1 := HD1.out _ X1.out
            have d2 := HD2.out _ X1.out
            have d3 := HD3.out _ X1.out
            have d4 := HD4.out _ X1.out
            have d5 := HD5.out _ X1.out
            go_wp2_with fail
            refine (HS.out _).mono ?_
            rintro e w2 ⟨rfl, hb2⟩
            have X2 : Hid (Below W0.heap.size W0 w2) := Lib.hid (ext_step (X1.out) (by first | exact Below.refl _ _ | exact (Below.refl _ _).alloc (Nat.le_refl _) _ | exact ((Below.refl _ _).alloc (Nat.le_refl _) _).alloc (by simp) _ | exact (((Below.refl _ _).alloc (Nat.le_refl _) _).alloc (by simp) _).alloc (by simp) _ | exact (Below.refl _ _).drew | exact ((Below.refl _ _).alloc (Nat.le_refl _) _).drew) hb2 (X1.out).size)
            clear hb2
            try clear d0 d1 d2 d3 d4 d5
            have d0 := HD0.out _ X2.out
            have d1 := HD1.out _ X2.out
            have d2 := HD2.out _ X2.out
            have d3 := HD3.out _ X2.out
            have d4 := HD4.out _ X2.out
            have d5 := HD5.out _ X2.out
            go_wp2_with fail
            refine (HA0.out _ (HX0.out.trans (X2.out.mono HX0.out.size))).mono ?_
            rintro e w3 ⟨rfl, hb3⟩
            have X3 : Hid (Below W0.heap.size W0 w3) := Lib.hid (ext_step (X2.out) (by first | exact Below.refl _ _ | exact (Below.refl _ _).alloc (Nat.le_refl _) _ | exact ((Below.refl _ _).alloc (Nat.le_refl _) _).alloc (by simp) _ | exact (((Below.refl _ _).alloc (Nat.le_refl _) _).alloc (by simp) _).alloc (by simp) _ | exact (Below.refl _ _).drew | exact ((Below.refl _ _).alloc (Nat.le_refl _) _).drew) hb3 (X2.out).size)
            clear hb3
            try clear d0 d1 d2 d3 d4 d5
            have d0 := HD0.out _ X3.out
            have d1 := HD1.out _ X3.out
            have d2 := HD2.out _ X3.out
            have d3 := HD3.out _ X3.out
            have d4 := HD4.out _ X3.out
            have d5 := HD5.out _ X3.out
            go_wp2
            go_ret
            exact ⟨ret_bool (by rw [HI.out]; rfl), HX0.out.trans (X3.out.mono HX0.out.size)⟩
          | true =>
            go_enter Tryz.func151, Tryz.ntmps151
            go_wp2_with fail
            rw [← hW0]
            refine (HF.out _).mono ?_
            rintro e w1 ⟨rfl, hb1⟩
            have X1 : Hid (Below W0.heap.size W0 w1) := Lib.hid (ext_step (Below.refl W0.heap.size W0) (by first | exact Below.refl _ _ | exact (Below.refl _ _).alloc (Nat.le_refl _) _ | exact ((Below.refl _ _).alloc (Nat.le_refl _) _).alloc (by simp) _ | exact (((Below.refl _ _).alloc (Nat.le_refl _) _).alloc (by simp) _).alloc (by simp) _ | exact (Below.refl _ _).drew | exact ((Below.refl _ _).alloc (Nat.le_refl _) _).drew) hb1 (Below.refl W0.heap.size W0).size)
            clear hb1
            try clear d0 d1 d2 d3 d4 d5
            have d0 := HD0.out _ X1.out
            have d1 := HD1.out _ X1.out
            have d2 := HD2.out _ X1.out
            have d3 := HD3.out _ X1.out
            have d4 := HD4.out _ X1.out
            have d5 := HD5.out _ X1.out
            go_wp2_with fail
            refine (HS.out _).mono ?_
            rintro e w2 ⟨rfl, hb2⟩
            have X2 : Hid (Below W0.heap.size W0 w2) := Lib.hid (ext_step (X1.out) (by first | exact Below.refl _ _ | exact (Below.refl _ _).alloc (Nat.le_refl _) _ | exact ((Below.refl _ _).alloc (Nat.le_refl _) _).alloc (by simp) _ | exact (((Below.refl _ _).alloc (Nat.le_refl _) _).alloc (by simp) _).alloc (by simp) _ | exact (Below.refl _ _).drew | exact ((Below.refl _ _).alloc (Nat.le_refl _) _).drew) hb2 (X1.out).size)
            clear hb2
            try clear d0 d1 d2 d3 d4 d5
            have d0 := HD0.out _ X2.out
            have d1 := HD1.out _ X2.out
            have d2 := HD2.out _ X2.out
            have d3 := HD3.out _ X2.out
            have d4 := HD4.out _ X2.out
            have d5 := HD5.out _ X2.out
            go_wp2_with fail
            refine (HA0.out _ (HX0.out.trans (X2.out.mono HX0.out.size))).mono ?_
            rintro e w3 ⟨rfl, hb3⟩
            have X3 : Hid (Below W0.heap.size W0 w3) := Lib.hid (ext_step (X2.out) (by first | exact Below.refl _ _ | exact (Below.refl _ _).alloc (Nat.le_refl _) _ | exact ((Below.refl _ _).alloc (Nat.le_refl _) _).alloc (by simp) _ | exact (((Below.refl _ _).alloc (Nat.le_refl _) _).alloc (by simp) _).alloc (by simp) _ | exact (Below.refl _ _).drew | exact ((Below.refl _ _).alloc (Nat.le_refl _) _).drew) hb3 (X2.out).size)
            clear hb3
            try clear d0 d1 d2 d3 d4 d5
            have d0 := HD0.out _ X3.out
            have d1 := HD1.out _ X3.out
            have d2 := HD2.out _ X3.out
            have d3 := HD3.out _ X3.out
            have d4 := HD4.out _ X3.out
            have d5 := HD5.out _ X3.out
            go_wp2
            go_ret
            exact ⟨ret_bool (by rw [HI.out]; rfl), HX0.out.trans (X3.out.mono HX0.out.size)⟩
  · have hk' : (n.kind == 1) = false := by rw [beq_eq_false_iff_ne]; exact hk
    have HI : Box (nodeI n = ((decide (n.kind = 2)) && (isEmp n.name) && (isEmp n.space) && (decide (n.attrs.length = 0)) && (decide (n.many = 0)) && (!isEmp n.text) && (decide (textErr n.text = 0)))) := ⟨by unfold nodeI; by_cases h2 : n.kind = 2 <;> simp [h2, hk]⟩
    generalize nodeI n = ri at *
    generalize textErr n.text = t6 at *
    obtain ⟨q0, hqq0⟩ : ∃ q, (decide (n.kind = 2)) = q := ⟨_, rfl⟩
    rw [hqq0] at HI
    obtain ⟨q1, hqq1⟩ : ∃ q, (isEmp n.name) = q := ⟨_, rfl⟩
    rw [hqq1] at HI
    obtain ⟨q2, hqq2⟩ : ∃ q, (isEmp n.space) = q := ⟨_, rfl⟩
    rw [hqq2] at HI
    obtain ⟨q3, hqq3⟩ : ∃ q, (decide (n.attrs.length = 0)) = q := ⟨_, rfl⟩
    rw [hqq3] at HI
    obtain ⟨q4, hqq4⟩ : ∃ q, (decide (n.many = 0)) = q := ⟨_, rfl⟩
    rw [hqq4] at HI
    obtain ⟨q5, hqq5⟩ : ∃ q, (!isEmp n.text) = q := ⟨_, rfl⟩
    rw [hqq5] at HI
    obtain ⟨q6, hqq6⟩ : ∃ q, (decide (t6 = 0)) = q := ⟨_, rfl⟩
    rw [hqq6] at HI
    cases q0 with
    | false =>
      have fq0 : (n.kind == 2) = false := by rw [beq_eq_false_iff_ne]; exact of_decide_eq_false hqq0
      go_enter Tryz.func151, Tryz.ntmps151
      go_wp2
      go_ret
      exact ⟨ret_bool (by rw [HI.out]; rfl), HXA.out⟩
    | true =>
      have fq0 : n.kind = 2 := of_decide_eq_true hqq0
      rw [fq0] at HD0 hW0 HXA
      rw [fq0]
      cases q1 with
      | false =>
        have fq1 : n.name.toList.isEmpty = false := (emp_is n.name).trans hqq1
        go_enter Tryz.func151, Tryz.ntmps151
        go_wp2
        go_ret
        exact ⟨ret_bool (by rw [HI.out]; rfl), HXA.out⟩
      | true =>
        have fq1 : n.name.toList.isEmpty = true := (emp_is n.name).trans hqq1
        cases q2 with
        | false =>
          have fq2 : n.space.toList.isEmpty = false := (emp_is n.space).trans hqq2
          go_enter Tryz.func151, Tryz.ntmps151
          go_wp2
          go_ret
          exact ⟨ret_bool (by rw [HI.out]; rfl), HXA.out⟩
        | true =>
          have fq2 : n.space.toList.isEmpty = true := (emp_is n.space).trans hqq2
          cases q3 with
          | false =>
            have fq3 : ((n.attrs.length : Int) == 0) = false := by have := of_decide_eq_false hqq3; rw [beq_eq_false_iff_ne]; omega
            go_enter Tryz.func151, Tryz.ntmps151
            go_wp2
            go_ret
            exact ⟨ret_bool (by rw [HI.out]; rfl), HXA.out⟩
          | true =>
            have fq3 : (n.attrs.length : Int) = 0 := by have := of_decide_eq_true hqq3; omega
            cases q4 with
            | false =>
              have fq4 : (n.many == 0) = false := by have := of_decide_eq_false hqq4; rw [beq_eq_false_iff_ne]; omega
              go_enter Tryz.func151, Tryz.ntmps151
              go_wp2
              go_ret
              exact ⟨ret_bool (by rw [HI.out]; rfl), HXA.out⟩
            | true =>
              have fq4 : n.many = 0 := by have := of_decide_eq_true hqq4; omega
              rw [fq4] at HD5 hW0 HXA
              cases q5 with
              | false =>
                have fq5 : n.text.toList.isEmpty = true := (emp_is n.text).trans (by rw [← Bool.not_not (isEmp n.text), hqq5]; rfl)
                go_enter Tryz.func151, Tryz.ntmps151
                go_wp2
                go_ret
                exact ⟨ret_bool (by rw [HI.out]; rfl), HXA.out⟩
              | true =>
                have fq5 : n.text.toList.isEmpty = false := (emp_is n.text).trans (by rw [← Bool.not_not (isEmp n.text), hqq5]; rfl)
                cases q6 with
                | false =>
                  have fq6 : (t6 == 0) = false := by rw [beq_eq_false_iff_ne]; exact of_decide_eq_false hqq6
                  go_enter Tryz.func151, Tryz.ntmps151
                  go_wp2_with fail
                  rw [← hW0]
                  refine (HT.out _).mono ?_
                  rintro e w1 ⟨rfl, hb1⟩
                  have X1 : Hid (Below W0.heap.size W0 w1) := Lib.hid (ext_step (Below.refl W0.heap.size W0) (by first | exact Below.refl _ _ | exact (Below.refl _ _).alloc (Nat.le_refl _) _ | exact ((Below.refl _ _).alloc (Nat.le_refl _) _).alloc (by simp) _ | exact (((Below.refl _ _).alloc (Nat.le_refl _) _).alloc (by simp) _).alloc (by simp) _ | exact (Below.refl _ _).drew | exact ((Below.refl _ _).alloc (Nat.le_refl _) _).drew) hb1 (Below.refl W0.heap.size W0).size)
                  clear hb1
                  try clear d0 d1 d2 d3 d4 d5
                  have d0 := HD0.out _ X1.out
                  have d1 := HD1.out _ X1.out
                  have d2 := HD2.out _ X1.out
                  have d3 := HD3.out _ X1.out
                  have d4 := HD4.out _ X1.out
                  have d5 := HD5.out _ X1.out
                  go_wp2
                  go_ret
                  exact ⟨ret_bool (by rw [HI.out]; rfl), HX0.out.trans (X1.out.mono HX0.out.size)⟩
                | true =>
                  have fq6 : t6 = 0 := of_decide_eq_true hqq6
                  subst fq6
                  go_enter Tryz.func151, Tryz.ntmps151
                  go_wp2_with fail
                  rw [← hW0]
                  refine (HT.out _).mono ?_
                  rintro e w1 ⟨rfl, hb1⟩
                  have X1 : Hid (Below W0.heap.size W0 w1) := Lib.hid (ext_step (Below.refl W0.heap.size W0) (by first | exact Below.refl _ _ | exact (Below.refl _ _).alloc (Nat.le_refl _) _ | exact ((Below.refl _ _).alloc (Nat.le_refl _) _).alloc (by simp) _ | exact (((Below.refl _ _).alloc (Nat.le_refl _) _).alloc (by simp) _).alloc (by simp) _ | exact (Below.refl _ _).drew | exact ((Below.refl _ _).alloc (Nat.le_refl _) _).drew) hb1 (Below.refl W0.heap.size W0).size)
                  clear hb1
                  try clear d0 d1 d2 d3 d4 d5
                  have d0 := HD0.out _ X1.out
                  have d1 := HD1.out _ X1.out
                  have d2 := HD2.out _ X1.out
                  have d3 := HD3.out _ X1.out
                  have d4 := HD4.out _ X1.out
                  have d5 := HD5.out _ X1.out
                  go_wp2
                  go_ret
                  exact ⟨ret_bool (by rw [HI.out]; rfl), HX0.out.trans (X1.out.mono HX0.out.size)⟩
end Go.Proofs.YtnmnpnofdgdigaaGreatDoor
end
