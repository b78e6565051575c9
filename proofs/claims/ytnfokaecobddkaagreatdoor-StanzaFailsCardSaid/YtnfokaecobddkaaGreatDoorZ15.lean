/- Part 15 of a proof laid in parts, one behind the other; no condition of its own. -/
import Derived.Test.YtnfokaecobddkaaGreatDoorZ14
import Derived.Test.YtnfokaecobddkaaGreatDoorZ13
import Derived.Laws.CopyOwn
import Derived.Test.YtnfokaecobddkaaGreatDoorZ12
import Derived.Laws.StructEq
import Derived.Test.YtnfokaecobddkaaGreatDoorZ02
import Derived.Test.YtnfokaecobddkaaGreatDoorZ03
import Derived.Test.YtnfokaecobddkaaGreatDoorZ06
import Derived.WalkMore
import Derived.Test.YtnfokaecobddkaaGreatDoorZ07
set_option linter.all false
section
namespace Go.Proofs.YtnfokaecobddkaaGreatDoor
open Go.RowKit
set_option linter.unusedSimpArgs false
set_option linter.unusedVariables false
theorem pairs_err : pairsT [(⟨#[116, 121, 112, 101]⟩ : ByteArray), (⟨#[99, 97, 110, 99, 101, 108]⟩ : ByteArray)] (([(⟨#[116, 121, 112, 101]⟩ : ByteArray), (⟨#[99, 97, 110, 99, 101, 108]⟩ : ByteArray)] : List ByteArray).length / 2) = [⟨emB, (⟨#[116, 121, 112, 101]⟩ : ByteArray), (⟨#[99, 97, 110, 99, 101, 108]⟩ : ByteArray)⟩] := by
  have h : ([(⟨#[116, 121, 112, 101]⟩ : ByteArray), (⟨#[99, 97, 110, 99, 101, 108]⟩ : ByteArray)] : List ByteArray).length / 2 = 1 := by simp
  rw [h]
  rfl
theorem errH_sz (k : Int) (h0 : -9223372036854775808 ≤ k) (h1 : k ≤ 9223372036854775807) : SzN 1000000000 (errH k) := by
  refine ⟨⟨by show (0 : Int) ≤ 1; omega, by show (1 : Int) < 256; omega⟩, by show (13 : Nat) ≤ _; omega, by show (5 : Nat) ≤ _; omega, ⟨by show (1 : Nat) ≤ _; omega, fun a ha => ?_⟩, by show (0 : Nat) ≤ _; omega, h0, h1⟩
  rw [List.mem_singleton.1 ha]
  exact ⟨Nat.zero_le _, by show (4 : Nat) ≤ _; omega, by show (6 : Nat) ≤ _; omega⟩
theorem errN_szw {word : ByteArray} (h : word.size ≤ 1000000000) : SzW [[errN word]] := by
  refine ⟨by show (1 : Nat) ≤ _; omega, fun v hv => ?_⟩
  rw [List.mem_singleton.1 hv]
  refine ⟨by show (1 : Nat) ≤ _; omega, fun n hn => ?_⟩
  rw [List.mem_singleton.1 hn]
  exact ⟨⟨by show (0 : Int) ≤ 1; omega, by show (1 : Int) < 256; omega⟩, by show (35 : Nat) ≤ _; omega, h, ⟨Nat.zero_le _, fun a ha => by cases ha⟩, Nat.zero_le _, by show (_ : Int) ≤ 0; omega, by show (0 : Int) ≤ _; omega⟩
theorem err_load (w : World) (word : ByteArray) (A : Option Addr) (c : Nat) : ∃ W, W = (w.alloc (.cells #[.int .u8 1, .string (⟨#[117, 114, 110, 58, 105, 101, 116, 102, 58, 112, 97, 114, 97, 109, 115, 58, 120, 109, 108, 58, 110, 115, 58, 120, 109, 112, 112, 45, 115, 116, 97, 110, 122, 97, 115]⟩ : ByteArray), .string word, .slice A 0 c, .string ⟨#[]⟩, .int .i64 0] 69)).alloc (.cells #[.slice (some ⟨w.heap.size, 0, none⟩) 1 1] 30) ∧ RdW W W.heap.size (some ⟨w.heap.size + 1, 0, none⟩) [[errN word]] ∧ Below w.heap.size w W := by
  refine ⟨_, rfl, ?_, ((Below.refl _ _).alloc (Nat.le_refl _) _).alloc (by simp) _⟩
  have h1 := al_at w ((w.alloc (.cells #[.int .u8 1, .string (⟨#[117, 114, 110, 58, 105, 101, 116, 102, 58, 112, 97, 114, 97, 109, 115, 58, 120, 109, 108, 58, 110, 115, 58, 120, 109, 112, 112, 45, 115, 116, 97, 110, 122, 97, 115]⟩ : ByteArray), .string word, .slice A 0 c, .string ⟨#[]⟩, .int .i64 0] 69)).alloc (.cells #[.slice (some ⟨w.heap.size, 0, none⟩) 1 1] 30)) _ _ rfl ((Below.refl _ _).alloc (by simp) _)
  have h2 := al_at (w.alloc (.cells #[.int .u8 1, .string (⟨#[117, 114, 110, 58, 105, 101, 116, 102, 58, 112, 97, 114, 97, 109, 115, 58, 120, 109, 108, 58, 110, 115, 58, 120, 109, 112, 112, 45, 115, 116, 97, 110, 122, 97, 115]⟩ : ByteArray), .string word, .slice A 0 c, .string ⟨#[]⟩, .int .i64 0] 69)) ((w.alloc (.cells #[.int .u8 1, .string (⟨#[117, 114, 110, 58, 105, 101, 116, 102, 58, 112, 97, 114, 97, 109, 115, 58, 120, 109, 108, 58, 110, 115, 58, 120, 109, 112, 112, 45, 115, 116, 97, 110, 122, 97, 115]⟩ : ByteArray), .string word, .slice A 0 c, .string ⟨#[]⟩, .int .i64 0] 69)).alloc (.cells #[.slice (some ⟨w.heap.size, 0, none⟩) 1 1] 30)) _ (w.heap.size + 1) (by simp) (Below.refl _ _)
  generalize ((w.alloc (.cells #[.int .u8 1, .string (⟨#[117, 114, 110, 58, 105, 101, 116, 102, 58, 112, 97, 114, 97, 109, 115, 58, 120, 109, 108, 58, 110, 115, 58, 120, 109, 112, 112, 45, 115, 116, 97, 110, 122, 97, 115]⟩ : ByteArray), .string word, .slice A 0 c, .string ⟨#[]⟩, .int .i64 0] 69)).alloc (.cells #[.slice (some ⟨w.heap.size, 0, none⟩) 1 1] 30)) = W at *
  have l1 := (Array.getElem?_eq_some_iff.1 h1).1
  have l2 := (Array.getElem?_eq_some_iff.1 h2).1
  have hV : RdV W W.heap.size (some ⟨w.heap.size, 0, none⟩) [errN word] := rdv_one (n := errN word) (A := A) (c := c) h1 l1 (fun h => absurd h (by simp [errN])) (Nat.zero_le _)
  refine fun _ => ⟨w.heap.size + 1, 0, rfl, l2, fun i v hi => ?_⟩
  cases i with
  | succ i => simp at hi
  | zero =>
    simp only [List.getElem?_cons_zero, Option.some.injEq] at hi
    subst hi
    exact ⟨some ⟨w.heap.size, 0, none⟩, 1, by simp [World.cell?, h2], Nat.le_refl _, hV⟩
theorem NewV.fresh {base : Nat} {w : World} {A : Option Addr} {c : Nat} {v : List NodeL} (h : NewV base w A c v) : Fresh base w (fun W => RdV W W.heap.size A v) := fun W' h1 h2 => by
  obtain ⟨l, rfl, hown, hh⟩ := h
  rw [List.length_map] at hown
  have hk := fun b (hb : base ≤ b) (hl : b < w.heap.size) (q : Nat) => World.cell?_of_block (a := ⟨b, q, none⟩) (h2 b hb hl)
  refine rd_rdv ⟨by have := (Rd.of_own hown).1; simpa using this, fun h0 => ?_⟩ (fun i x hi => ⟨(hh i x hi).1, fun h0 => ?_⟩)
  · obtain ⟨g, rfl, g1, g2⟩ := own_some hown (by simpa using h0)
    obtain ⟨b, off, e, hb, hc⟩ := (Rd.of_own hown).2 (by simpa using h0)
    simp only [Option.some.injEq, Addr.mk.injEq, and_true] at e
    obtain ⟨rfl, rfl⟩ := e
    exact ⟨g, 0, rfl, Nat.lt_of_lt_of_le hb h1, fun j u hu => (hk g g1 g2 _).trans (hc j u hu)⟩
  · obtain ⟨b, off, e, b1, b2, b3, b4⟩ := (hh i x hi).2 h0
    refine ⟨b, off, e, Nat.lt_of_lt_of_le b3 h1, fun j a ha => ?_⟩
    obtain ⟨q0, q1, q2⟩ := b4 j a ha
    exact ⟨(hk b b1 b3 _).trans q0, (hk b b1 b3 _).trans q1, (hk b b1 b3 _).trans q2⟩
theorem load_fresh {base g : Nat} {w W : World} {A : Option Addr} {c : Nat} {v : List NodeL} {t : TypeId} (h : NewV base w A c v) (hc : v.length ≤ c) (hg : W.heap[g]? = some (.cells #[.slice A v.length c] t (0, 0))) (hb : base ≤ g) (hx : Below w.heap.size w W) : Fresh base W (fun W => RdW W W.heap.size (some ⟨g, 0, none⟩) [v]) := fun W' h1 h2 => by
  have hl := (Array.getElem?_eq_some_iff.1 hg).1
  have hV := (h.fresh.ext hx) W' h1 h2
  refine fun _ => ⟨g, 0, rfl, Nat.lt_of_lt_of_le hl h1, fun i x hi => ?_⟩
  cases i with
  | succ i => simp at hi
  | zero =>
    simp only [List.getElem?_cons_zero, Option.some.injEq] at hi
    subst hi
    exact ⟨A, c, by simp [World.cell?, (h2 g hb hl).trans hg], hc, hV⟩
set_option maxHeartbeats 4000000 in
set_option maxRecDepth 10000 in
theorem sfail9_any (s : StL) (A : Option Addr) (c : Nat) (word : ByteArray) (w : World) (hz : SzB s) (hr : RdW w w.heap.size A s.load) (hw : word.size ≤ 1000000000) (hg : Glb w) :
    Calls Tryz.prog 9 #[encS s A c, .string word] w (FailsPost s word w) := by
  obtain ⟨W0, hW0⟩ : ∃ W0, W0 = (w.alloc (.cells #[.int .u8 s.kind, .string s.typ, .string s.id, .string s.frm, .string s.to, .slice A s.load.length c] 24)).alloc (.cells #[.int .u8 0, .string ⟨#[]⟩, .string ⟨#[]⟩, .string ⟨#[]⟩, .string ⟨#[]⟩, .slice none 0 0] 24) := ⟨_, rfl⟩
  have hX0 : Below w.heap.size w W0 := by rw [hW0]; exact ((Below.refl _ _).alloc (Nat.le_refl _) _).alloc (by simp) _
  have hS0 : SAt W0 w.heap.size s A c := by rw [hW0]; exact (SAt.new _ _ _ _ _).ext ((Below.refl _ _).alloc (Nat.le_refl _) _)
  have hT0 : SAt W0 (w.heap.size + 1) emS none 0 := by
    rw [hW0]
    have h := SAt.new (w.alloc (.cells #[.int .u8 s.kind, .string s.typ, .string s.id, .string s.frm, .string s.to, .slice A s.load.length c] 24)) 24 emS none 0
    rw [show (w.alloc (.cells #[.int .u8 s.kind, .string s.typ, .string s.id, .string s.frm, .string s.to, .slice A s.load.length c] 24)).heap.size = w.heap.size + 1 by simp] at h
    exact h
  have HM := Lib.hid (scheck9_any s A c W0 hz (RdW.ext hr hX0) (hg.below hX0))
  have HEE : Box (stnErr s = if stnI s then 0 else 8) := ⟨rfl⟩
  have HMF : Box (mayF s = (!(s.typ.toList == [101, 114, 114, 111, 114]) && (!decide (s.kind = 3) || !(s.typ.toList == [114, 101, 115, 117, 108, 116])))) := ⟨rfl⟩
  have HNM := Lib.hid (fun W => name_any word W hw)
  have HE2 := Lib.hid (fun W => elem_any (⟨#[117, 114, 110, 58, 105, 101, 116, 102, 58, 112, 97, 114, 97, 109, 115, 58, 120, 109, 108, 58, 110, 115, 58, 120, 109, 112, 112, 45, 115, 116, 97, 110, 122, 97, 115]⟩ : ByteArray) word [] none 0 W (fun h => absurd h (by decide)) (by simp))
  rw [show pairsT [] (([] : List ByteArray).length / 2) = [] from rfl] at HE2
  unfold ElemE encN mkN emB at HE2
  dsimp only [List.length_nil] at HE2
  have HSZ := Lib.hid hw
  have HX0 := Lib.hid hX0
  have HS := Lib.hid hS0
  have HT := Lib.hid hT0
  have a0 := HS.out.c0
  have a1 := HS.out.c1
  have a2 := HS.out.c2
  have a3 := HS.out.c3
  have a4 := HS.out.c4
  have a5 := HS.out.c5
  rw [hW0] at a0 a1 a2 a3 a4 a5
  have HW0 := Lib.hid hW0
  have hg1 := hT0.lt
  clear hW0 hX0 hS0 hT0 hr hz hg
  unfold encS at HM ⊢
  have HB := Lib.hid (@fail_bad s word)
  have HN := Lib.hid (@fail_no s word)
  have HY := Lib.hid (@fail_yes s word)
  generalize stnErr s = se at *
  cases hst : stnI s
  all_goals
    rw [hst] at HEE
    have he := HEE.out
    try simp only [Bool.false_eq_true, if_false] at he
    try simp only [if_true] at he
    subst he
    have HST := Lib.hid hst
    clear hst HEE
  · have HP := Lib.hid (HB.out HST.out)
    go_enter Tryz.func9, Tryz.ntmps9
    go_wp2_with fail
    rw [← HW0.out]
    refine HM.out.mono ?_
    rintro e w1 ⟨rfl, hb1⟩
    have X1 := Lib.hid (HX0.out.trans (hb1.mono HX0.out.size))
    have T1 := Lib.hid (HT.out.ext hb1)
    have S1 := Lib.hid (HS.out.ext hb1)
    have hg2 := T1.out.lt
    clear hb1
    clear a0 a1 a2 a3 a4 a5
    have z0 := T1.out.c0
    have z1 := T1.out.c1
    have z2 := T1.out.c2
    have z3 := T1.out.c3
    have z4 := T1.out.c4
    have z5 := T1.out.c5
    have f0 := T1.out.fz 0
    have f1 := T1.out.fz 1
    have f2 := T1.out.fz 2
    have f3 := T1.out.fz 3
    have f4 := T1.out.fz 4
    have f5 := T1.out.fz 5
    unfold emS at z0 z1 z2 z3 z4 z5
    dsimp only at z0 z1 z2 z3 z4 z5
    go_wp2
    obtain ⟨tt, hh⟩ := T1.out.put emS none 0
    exact bodyPost_ret (v := .tuple #[encS emS none 0, .int .i64 8])
      (results_jid (fn := Tryz.f9) (p := 4) (s := 5) (ty := 24) rfl _ _ (w.heap.size + 1) _ _ _ _ rfl rfl hh Tryz.underlying24 (by kernel_rfl)) rfl
      (FailsPost.no (put6_below X1.out (Nat.le_succ _) _ _ _ _ _ _) HP.out.1 HP.out.2)
  · cases hn : nameI word
    all_goals
      rw [hn] at HNM
      have HNN := Lib.hid hn
      clear hn
    · have HP := Lib.hid (HN.out HST.out (by rw [HNN.out, Bool.and_false]))
      go_enter Tryz.func9, Tryz.ntmps9
      go_wp2_with fail
      rw [← HW0.out]
      refine HM.out.mono ?_
      rintro e w1 ⟨rfl, hb1⟩
      have X1 := Lib.hid (HX0.out.trans (hb1.mono HX0.out.size))
      have T1 := Lib.hid (HT.out.ext hb1)
      have S1 := Lib.hid (HS.out.ext hb1)
      have hg2 := T1.out.lt
      clear hb1
      clear a0 a1 a2 a3 a4 a5
      have a0 := S1.out.c0
      have a1 := S1.out.c1
      have a2 := S1.out.c2
      have a3 := S1.out.c3
      have a4 := S1.out.c4
      have a5 := S1.out.c5
      go_wp2_with fail
      refine (HNM.out _).mono ?_
      rintro e w2 ⟨rfl, rfl⟩
      have z0 := T1.out.c0
      have z1 := T1.out.c1
      have z2 := T1.out.c2
      have z3 := T1.out.c3
      have z4 := T1.out.c4
      have z5 := T1.out.c5
      have f0 := T1.out.fz 0
      have f1 := T1.out.fz 1
      have f2 := T1.out.fz 2
      have f3 := T1.out.fz 3
      have f4 := T1.out.fz 4
      have f5 := T1.out.fz 5
      unfold emS at z0 z1 z2 z3 z4 z5
      dsimp only at z0 z1 z2 z3 z4 z5
      go_wp2
      obtain ⟨tt, hh⟩ := T1.out.put emS none 0
      exact bodyPost_ret (v := .tuple #[encS emS none 0, .int .i64 2])
        (results_jid (fn := Tryz.f9) (p := 4) (s := 5) (ty := 24) rfl _ _ (w.heap.size + 1) _ _ _ _ rfl rfl hh Tryz.underlying24 (by kernel_rfl)) rfl
        (FailsPost.no (put6_below X1.out (Nat.le_succ _) _ _ _ _ _ _) HP.out.1 HP.out.2)
    · cases h1 : (s.typ.toList == [101, 114, 114, 111, 114])
      · by_cases hk : s.kind = 3
        · have hk' : (s.kind == 3) = true := by rw [beq_iff_eq]; exact hk
          cases h2 : (s.typ.toList == [114, 101, 115, 117, 108, 116])
          · have HP := Lib.hid (HY.out HST.out (by rw [HMF.out, HNN.out, h1, h2, decide_eq_true hk]; rfl))
            clear hk
            go_enter Tryz.func9, Tryz.ntmps9
            go_wp2_with fail
            rw [← HW0.out]
            refine HM.out.mono ?_
            rintro e w1 ⟨rfl, hb1⟩
            have X1 := Lib.hid (HX0.out.trans (hb1.mono HX0.out.size))
            have T1 := Lib.hid (HT.out.ext hb1)
            have S1 := Lib.hid (HS.out.ext hb1)
            have hg2 := T1.out.lt
            clear hb1
            clear a0 a1 a2 a3 a4 a5
            have a0 := S1.out.c0
            have a1 := S1.out.c1
            have a2 := S1.out.c2
            have a3 := S1.out.c3
            have a4 := S1.out.c4
            have a5 := S1.out.c5
            go_wp2_with fail
            refine (HNM.out _).mono ?_
            rintro e w2 ⟨rfl, rfl⟩
            go_wp2_with fail
            obtain ⟨W3, hW3⟩ : ∃ W3, W3 = w1.alloc (.cells #[.string (⟨#[116, 121, 112, 101]⟩ : ByteArray), .string (⟨#[99, 97, 110, 99, 101, 108]⟩ : ByteArray)] 9) := ⟨_, rfl⟩
            have hX3 : Below w1.heap.size w1 W3 := by rw [hW3]; exact (Below.refl _ _).alloc (Nat.le_refl _) _
            have hR3 : RdS W3 (some ⟨w1.heap.size, 0, none⟩) [(⟨#[116, 121, 112, 101]⟩ : ByteArray), (⟨#[99, 97, 110, 99, 101, 108]⟩ : ByteArray)] := by rw [hW3]; exact RdS.new w1 9 [(⟨#[116, 121, 112, 101]⟩ : ByteArray), (⟨#[99, 97, 110, 99, 101, 108]⟩ : ByteArray)]
            have HE1 := Lib.hid (elem_any (⟨#[106, 97, 98, 98, 101, 114, 58, 99, 108, 105, 101, 110, 116]⟩ : ByteArray) (⟨#[101, 114, 114, 111, 114]⟩ : ByteArray) [(⟨#[116, 121, 112, 101]⟩ : ByteArray), (⟨#[99, 97, 110, 99, 101, 108]⟩ : ByteArray)] (some ⟨w1.heap.size, 0, none⟩) 2 W3 hR3 (by simp))
            rw [show pairsT [(⟨#[116, 121, 112, 101]⟩ : ByteArray), (⟨#[99, 97, 110, 99, 101, 108]⟩ : ByteArray)] (([(⟨#[116, 121, 112, 101]⟩ : ByteArray), (⟨#[99, 97, 110, 99, 101, 108]⟩ : ByteArray)] : List ByteArray).length / 2) = [⟨emB, (⟨#[116, 121, 112, 101]⟩ : ByteArray), (⟨#[99, 97, 110, 99, 101, 108]⟩ : ByteArray)⟩] from pairs_err] at HE1
            unfold ElemE encN mkN emB at HE1
            dsimp only [List.length_cons, List.length_nil] at HE1
            have X3 := Lib.hid (X1.out.trans (hX3.mono X1.out.size))
            have T3 := Lib.hid (T1.out.ext hX3)
            have S3 := Lib.hid (S1.out.ext hX3)
            have HW3 := Lib.hid hW3
            clear hW3 hX3 hR3
            clear a0 a1 a2 a3 a4 a5
            rw [← HW3.out]
            refine HE1.out.mono ?_
            rintro e w4 ⟨A4, c4, rfl, hl4, hr4, hb4⟩
            have X4 := Lib.hid (X3.out.trans (hb4.mono X3.out.size))
            have T4 := Lib.hid (T3.out.ext hb4)
            have S4 := Lib.hid (S3.out.ext hb4)
            have L4 := Lib.hid hl4
            have R4 := Lib.hid hr4.rda
            clear hl4 hr4 hb4
            go_wp2_with fail
            refine (HE2.out w4).mono ?_
            rintro e w5 ⟨A5, c5, rfl, hl5, hr5, hb5⟩
            have X5 := Lib.hid (X4.out.trans (hb5.mono X4.out.size))
            have T5 := Lib.hid (T4.out.ext hb5)
            have S5 := Lib.hid (S4.out.ext hb5)
            have R5 := Lib.hid ((R4.out.below hb5 (Nat.le_refl _)).more hb5.size)
            clear hl5 hr5 hb5
            obtain ⟨W6, hW6, hR6, hX6⟩ := err_load w5 word A5 c5
            have X6 := Lib.hid (X5.out.trans (hX6.mono X5.out.size))
            have T6 := Lib.hid (T5.out.ext hX6)
            have S6 := Lib.hid (S5.out.ext hX6)
            have HPT := Lib.hid (put_node (errH 0) A4 c4 [[errN word]] (some ⟨w5.heap.size + 1, 0, none⟩) 1 W6 (errH_sz 0 (by omega) (by omega)) ((R5.out.below hX6 (Nat.le_refl _)).more hX6.size) L4.out (errN_szw HSZ.out) hR6)
            unfold PutPost at HPT
            rw [(put_fail HNN.out).1, (put_fail HNN.out).2] at HPT
            unfold encN errH emB at HPT
            dsimp only [List.length_cons, List.length_nil] at HPT
            have HW6 := Lib.hid hW6
            clear hW6 hR6 hX6
            go_wp2_with fail
            rw [← HW6.out]
            refine HPT.out.mono ?_
            rintro e w7 ⟨A7, c7, rfl, hl7, hn7, hb7⟩
            have X7 := Lib.hid (X6.out.trans (hb7.mono X6.out.size))
            have T7 := Lib.hid (T6.out.ext hb7)
            have S7 := Lib.hid (S6.out.ext hb7)
            have N7 := Lib.hid ((hn7.mono X6.out.size))
            have L7 := Lib.hid hl7
            have Z7 := Lib.hid X6.out.size
            have N7b := Lib.hid hn7
            have H67 := Lib.hid hb7.size
            clear hl7 hn7 hb7
            obtain ⟨W8, hW8⟩ : ∃ W8, W8 = w7.alloc (.cells #[.slice A7 (failV word).length c7] 30) := ⟨_, rfl⟩
            have hX8 : Below w7.heap.size w7 W8 := by rw [hW8]; exact (Below.refl _ _).alloc (Nat.le_refl _) _
            have hH8 : W8.heap[w7.heap.size]? = some (.cells #[.slice A7 (failV word).length c7] 30 (0, 0)) := by rw [hW8]; exact heap_alloc_new w7 _
            have X8 := Lib.hid (X7.out.trans (hX8.mono X7.out.size))
            have T8 := Lib.hid (T7.out.ext hX8)
            have F8 := Lib.hid (load_fresh (base := W6.heap.size) N7b.out L7.out hH8 H67.out hX8)
            have HW8 := Lib.hid hW8
            clear hW8 hX8 hH8
            have a0 := S7.out.c0
            have a1 := S7.out.c1
            have a2 := S7.out.c2
            have a3 := S7.out.c3
            have a4 := S7.out.c4
            have a5 := S7.out.c5
            have z0 := T8.out.c0
            have z1 := T8.out.c1
            have z2 := T8.out.c2
            have z3 := T8.out.c3
            have z4 := T8.out.c4
            have z5 := T8.out.c5
            have f0 := T8.out.fz 0
            have f1 := T8.out.fz 1
            have f2 := T8.out.fz 2
            have f3 := T8.out.fz 3
            have f4 := T8.out.fz 4
            have f5 := T8.out.fz 5
            unfold emS at z0 z1 z2 z3 z4 z5
            dsimp only at z0 z1 z2 z3 z4 z5
            rw [HW8.out] at z0 z1 z2 z3 z4 z5 f0 f1 f2 f3 f4 f5
            go_wp2
            rw [← HW8.out]
            obtain ⟨tt, hh⟩ := T8.out.put (failS s word) (some ⟨w7.heap.size, 0, none⟩) 1
            refine bodyPost_ret (v := .tuple #[encS (failS s word) (some ⟨w7.heap.size, 0, none⟩) 1, .int .i64 0])
              (results_jid (fn := Tryz.f9) (p := 4) (s := 5) (ty := 24) rfl _ _ (w.heap.size + 1) _ _ _ _ rfl rfl hh Tryz.underlying24 (by kernel_rfl)) rfl ?_
            exact FailsPost.yes (put6_below X8.out (Nat.le_succ _) _ _ _ _ _ _) HP.out.1 HP.out.2 (Nat.le_refl _) ((F8.out.rows (by have := T6.out.lt; exact this) _ _ _ _ _ _).mono X6.out.size)
          · have HP := Lib.hid (HN.out HST.out (by rw [HMF.out, HNN.out, h1, h2, decide_eq_true hk]; rfl))
            clear hk
            go_enter Tryz.func9, Tryz.ntmps9
            go_wp2_with fail
            rw [← HW0.out]
            refine HM.out.mono ?_
            rintro e w1 ⟨rfl, hb1⟩
            have X1 := Lib.hid (HX0.out.trans (hb1.mono HX0.out.size))
            have T1 := Lib.hid (HT.out.ext hb1)
            have S1 := Lib.hid (HS.out.ext hb1)
            have hg2 := T1.out.lt
            clear hb1
            clear a0 a1 a2 a3 a4 a5
            have a0 := S1.out.c0
            have a1 := S1.out.c1
            have a2 := S1.out.c2
            have a3 := S1.out.c3
            have a4 := S1.out.c4
            have a5 := S1.out.c5
            go_wp2_with fail
            refine (HNM.out _).mono ?_
            rintro e w2 ⟨rfl, rfl⟩
            have z0 := T1.out.c0
            have z1 := T1.out.c1
            have z2 := T1.out.c2
            have z3 := T1.out.c3
            have z4 := T1.out.c4
            have z5 := T1.out.c5
            have f0 := T1.out.fz 0
            have f1 := T1.out.fz 1
            have f2 := T1.out.fz 2
            have f3 := T1.out.fz 3
            have f4 := T1.out.fz 4
            have f5 := T1.out.fz 5
            unfold emS at z0 z1 z2 z3 z4 z5
            dsimp only at z0 z1 z2 z3 z4 z5
            go_wp2
            obtain ⟨tt, hh⟩ := T1.out.put emS none 0
            exact bodyPost_ret (v := .tuple #[encS emS none 0, .int .i64 2])
              (results_jid (fn := Tryz.f9) (p := 4) (s := 5) (ty := 24) rfl _ _ (w.heap.size + 1) _ _ _ _ rfl rfl hh Tryz.underlying24 (by kernel_rfl)) rfl
              (FailsPost.no (put6_below X1.out (Nat.le_succ _) _ _ _ _ _ _) HP.out.1 HP.out.2)
        · have hk' : (s.kind == 3) = false := by rw [beq_eq_false_iff_ne]; exact hk
          have HP := Lib.hid (HY.out HST.out (by rw [HMF.out, HNN.out, h1, decide_eq_false hk]; rfl))
          clear hk
          go_enter Tryz.func9, Tryz.ntmps9
          go_wp2_with fail
          rw [← HW0.out]
          refine HM.out.mono ?_
          rintro e w1 ⟨rfl, hb1⟩
          have X1 := Lib.hid (HX0.out.trans (hb1.mono HX0.out.size))
          have T1 := Lib.hid (HT.out.ext hb1)
          have S1 := Lib.hid (HS.out.ext hb1)
          have hg2 := T1.out.lt
          clear hb1
          clear a0 a1 a2 a3 a4 a5
          have a0 := S1.out.c0
          have a1 := S1.out.c1
          have a2 := S1.out.c2
          have a3 := S1.out.c3
          have a4 := S1.out.c4
          have a5 := S1.out.c5
          go_wp2_with fail
          refine (HNM.out _).mono ?_
          rintro e w2 ⟨rfl, rfl⟩
          go_wp2_with fail
          obtain ⟨W3, hW3⟩ : ∃ W3, W3 = w1.alloc (.cells #[.string (⟨#[116, 121, 112, 101]⟩ : ByteArray), .string (⟨#[99, 97, 110, 99, 101, 108]⟩ : ByteArray)] 9) := ⟨_, rfl⟩
          have hX3 : Below w1.heap.size w1 W3 := by rw [hW3]; exact (Below.refl _ _).alloc (Nat.le_refl _) _
          have hR3 : RdS W3 (some ⟨w1.heap.size, 0, none⟩) [(⟨#[116, 121, 112, 101]⟩ : ByteArray), (⟨#[99, 97, 110, 99, 101, 108]⟩ : ByteArray)] := by rw [hW3]; exact RdS.new w1 9 [(⟨#[116, 121, 112, 101]⟩ : ByteArray), (⟨#[99, 97, 110, 99, 101, 108]⟩ : ByteArray)]
          have HE1 := Lib.hid (elem_any (⟨#[106, 97, 98, 98, 101, 114, 58, 99, 108, 105, 101, 110, 116]⟩ : ByteArray) (⟨#[101, 114, 114, 111, 114]⟩ : ByteArray) [(⟨#[116, 121, 112, 101]⟩ : ByteArray), (⟨#[99, 97, 110, 99, 101, 108]⟩ : ByteArray)] (some ⟨w1.heap.size, 0, none⟩) 2 W3 hR3 (by simp))
          rw [show pairsT [(⟨#[116, 121, 112, 101]⟩ : ByteArray), (⟨#[99, 97, 110, 99, 101, 108]⟩ : ByteArray)] (([(⟨#[116, 121, 112, 101]⟩ : ByteArray), (⟨#[99, 97, 110, 99, 101, 108]⟩ : ByteArray)] : List ByteArray).length / 2) = [⟨emB, (⟨#[116, 121, 112, 101]⟩ : ByteArray), (⟨#[99, 97, 110, 99, 101, 108]⟩ : ByteArray)⟩] from pairs_err] at HE1
          unfold ElemE encN mkN emB at HE1
          dsimp only [List.length_cons, List.length_nil] at HE1
          have X3 := Lib.hid (X1.out.trans (hX3.mono X1.out.size))
          have T3 := Lib.hid (T1.out.ext hX3)
          have S3 := Lib.hid (S1.out.ext hX3)
          have HW3 := Lib.hid hW3
          clear hW3 hX3 hR3
          clear a0 a1 a2 a3 a4 a5
          rw [← HW3.out]
          refine HE1.out.mono ?_
          rintro e w4 ⟨A4, c4, rfl, hl4, hr4, hb4⟩
          have X4 := Lib.hid (X3.out.trans (hb4.mono X3.out.size))
          have T4 := Lib.hid (T3.out.ext hb4)
          have S4 := Lib.hid (S3.out.ext hb4)
          have L4 := Lib.hid hl4
          have R4 := Lib.hid hr4.rda
          clear hl4 hr4 hb4
          go_wp2_with fail
          refine (HE2.out w4).mono ?_
          rintro e w5 ⟨A5, c5, rfl, hl5, hr5, hb5⟩
          have X5 := Lib.hid (X4.out.trans (hb5.mono X4.out.size))
          have T5 := Lib.hid (T4.out.ext hb5)
          have S5 := Lib.hid (S4.out.ext hb5)
          have R5 := Lib.hid ((R4.out.below hb5 (Nat.le_refl _)).more hb5.size)
          clear hl5 hr5 hb5
          obtain ⟨W6, hW6, hR6, hX6⟩ := err_load w5 word A5 c5
          have X6 := Lib.hid (X5.out.trans (hX6.mono X5.out.size))
          have T6 := Lib.hid (T5.out.ext hX6)
          have S6 := Lib.hid (S5.out.ext hX6)
          have HPT := Lib.hid (put_node (errH 0) A4 c4 [[errN word]] (some ⟨w5.heap.size + 1, 0, none⟩) 1 W6 (errH_sz 0 (by omega) (by omega)) ((R5.out.below hX6 (Nat.le_refl _)).more hX6.size) L4.out (errN_szw HSZ.out) hR6)
          unfold PutPost at HPT
          rw [(put_fail HNN.out).1, (put_fail HNN.out).2] at HPT
          unfold encN errH emB at HPT
          dsimp only [List.length_cons, List.length_nil] at HPT
          have HW6 := Lib.hid hW6
          clear hW6 hR6 hX6
          go_wp2_with fail
          rw [← HW6.out]
          refine HPT.out.mono ?_
          rintro e w7 ⟨A7, c7, rfl, hl7, hn7, hb7⟩
          have X7 := Lib.hid (X6.out.trans (hb7.mono X6.out.size))
          have T7 := Lib.hid (T6.out.ext hb7)
          have S7 := Lib.hid (S6.out.ext hb7)
          have N7 := Lib.hid ((hn7.mono X6.out.size))
          have L7 := Lib.hid hl7
          have Z7 := Lib.hid X6.out.size
          have N7b := Lib.hid hn7
          have H67 := Lib.hid hb7.size
          clear hl7 hn7 hb7
          obtain ⟨W8, hW8⟩ : ∃ W8, W8 = w7.alloc (.cells #[.slice A7 (failV word).length c7] 30) := ⟨_, rfl⟩
          have hX8 : Below w7.heap.size w7 W8 := by rw [hW8]; exact (Below.refl _ _).alloc (Nat.le_refl _) _
          have hH8 : W8.heap[w7.heap.size]? = some (.cells #[.slice A7 (failV word).length c7] 30 (0, 0)) := by rw [hW8]; exact heap_alloc_new w7 _
          have X8 := Lib.hid (X7.out.trans (hX8.mono X7.out.size))
          have T8 := Lib.hid (T7.out.ext hX8)
          have F8 := Lib.hid (load_fresh (base := W6.heap.size) N7b.out L7.out hH8 H67.out hX8)
          have HW8 := Lib.hid hW8
          clear hW8 hX8 hH8
          have a0 := S7.out.c0
          have a1 := S7.out.c1
          have a2 := S7.out.c2
          have a3 := S7.out.c3
          have a4 := S7.out.c4
          have a5 := S7.out.c5
          have z0 := T8.out.c0
          have z1 := T8.out.c1
          have z2 := T8.out.c2
          have z3 := T8.out.c3
          have z4 := T8.out.c4
          have z5 := T8.out.c5
          have f0 := T8.out.fz 0
          have f1 := T8.out.fz 1
          have f2 := T8.out.fz 2
          have f3 := T8.out.fz 3
          have f4 := T8.out.fz 4
          have f5 := T8.out.fz 5
          unfold emS at z0 z1 z2 z3 z4 z5
          dsimp only at z0 z1 z2 z3 z4 z5
          rw [HW8.out] at z0 z1 z2 z3 z4 z5 f0 f1 f2 f3 f4 f5
          go_wp2
          rw [← HW8.out]
          obtain ⟨tt, hh⟩ := T8.out.put (failS s word) (some ⟨w7.heap.size, 0, none⟩) 1
          refine bodyPost_ret (v := .tuple #[encS (failS s word) (some ⟨w7.heap.size, 0, none⟩) 1, .int .i64 0])
            (results_jid (fn := Tryz.f9) (p := 4) (s := 5) (ty := 24) rfl _ _ (w.heap.size + 1) _ _ _ _ rfl rfl hh Tryz.underlying24 (by kernel_rfl)) rfl ?_
          exact FailsPost.yes (put6_below X8.out (Nat.le_succ _) _ _ _ _ _ _) HP.out.1 HP.out.2 (Nat.le_refl _) ((F8.out.rows (by have := T6.out.lt; exact this) _ _ _ _ _ _).mono X6.out.size)
      · have HP := Lib.hid (HN.out HST.out (by rw [HMF.out, HNN.out, h1]; rfl))
        go_enter Tryz.func9, Tryz.ntmps9
        go_wp2_with fail
        rw [← HW0.out]
        refine HM.out.mono ?_
        rintro e w1 ⟨rfl, hb1⟩
        have X1 := Lib.hid (HX0.out.trans (hb1.mono HX0.out.size))
        have T1 := Lib.hid (HT.out.ext hb1)
        have S1 := Lib.hid (HS.out.ext hb1)
        have hg2 := T1.out.lt
        clear hb1
        clear a0 a1 a2 a3 a4 a5
        have a0 := S1.out.c0
        have a1 := S1.out.c1
        have a2 := S1.out.c2
        have a3 := S1.out.c3
        have a4 := S1.out.c4
        have a5 := S1.out.c5
        go_wp2_with fail
        refine (HNM.out _).mono ?_
        rintro e w2 ⟨rfl, rfl⟩
        have z0 := T1.out.c0
        have z1 := T1.out.c1
        have z2 := T1.out.c2
        have z3 := T1.out.c3
        have z4 := T1.out.c4
        have z5 := T1.out.c5
        have f0 := T1.out.fz 0
        have f1 := T1.out.fz 1
        have f2 := T1.out.fz 2
        have f3 := T1.out.fz 3
        have f4 := T1.out.fz 4
        have f5 := T1.out.fz 5
        unfold emS at z0 z1 z2 z3 z4 z5
        dsimp only at z0 z1 z2 z3 z4 z5
        go_wp2
        obtain ⟨tt, hh⟩ := T1.out.put emS none 0
        exact bodyPost_ret (v := .tuple #[encS emS none 0, .int .i64 2])
          (results_jid (fn := Tryz.f9) (p := 4) (s := 5) (ty := 24) rfl _ _ (w.heap.size + 1) _ _ _ _ rfl rfl hh Tryz.underlying24 (by kernel_rfl)) rfl
          (FailsPost.no (put6_below X1.out (Nat.le_succ _) _ _ _ _ _ _) HP.out.1 HP.out.2)
theorem sfail_any (s : StL) (A : Option Addr) (c : Nat) (word : ByteArray) (w : World) (hz : SzS s) (hr : RdW w w.heap.size A s.load) (hw : word.size ≤ 1000000000) (hg : Glb w) :
    Calls Tryz.prog 9 #[encS s A c, .string word] w (FailsPost s word w) := sfail9_any s A c word w hz.b hr hw hg
end Go.Proofs.YtnfokaecobddkaaGreatDoor
end
section
namespace Go.Proofs.YtnfokaecobddkaaGreatDoor
open Go.RowKit
set_option linter.unusedSimpArgs false
set_option linter.unusedVariables false
theorem own_at {w w' : World} {base s n : Nat} {e : TypeId} {v : Value} {xs : List Value} (h : w.ownsRow base e s v n xs) (hk : ∀ k, base ≤ k → k < w.heap.size → w'.heap[k]? = w.heap[k]?) : w'.ownsRow base e s v n xs := by
  refine ⟨h.1, ?_⟩
  rcases h.2 with h1 | ⟨g, cap, cur, h1, h2, h3, h4⟩
  · exact .inl h1
  · exact .inr ⟨g, cap, cur, h1, h2, (hk g h2 (Array.getElem?_eq_some_iff.1 h3).1).trans h3, h4⟩
theorem NewO.at {base : Nat} {v : Value} {w w' : World} {A : Option Addr} {l : List AttrL} (h : NewO base v w A l) (hs : w.heap.size ≤ w'.heap.size) (hk : ∀ k, base ≤ k → k < w.heap.size → w'.heap[k]? = w.heap[k]?) : NewO base v w' A l := fun h0 => by
  obtain ⟨b, off, h1, h2, h3, h4, h5⟩ := h h0
  exact ⟨b, off, h1, h2, h3, Nat.lt_of_lt_of_le h4 hs, fun i a hi => by
    obtain ⟨q0, q1, q2⟩ := h5 i a hi
    have hc : ∀ q : Nat, w'.cell? ⟨b, q, none⟩ = w.cell? ⟨b, q, none⟩ := fun q => World.cell?_of_block (hk b h2 h4)
    exact ⟨(hc _).trans q0, (hc _).trans q1, (hc _).trans q2⟩⟩
theorem RowT.at {base : Nat} {u : Value} {w w' : World} {ts : List TreeH} (h : RowT base u w ts) (hs : w.heap.size ≤ w'.heap.size) (hk : ∀ k, base ≤ k → k < w.heap.size → w'.heap[k]? = w.heap[k]?) : RowT base u w' ts := by
  refine ⟨own_at h.1 hk, fun x hx => ?_⟩
  obtain ⟨q1, q2, l, q3, q4, q5, q6⟩ := h.2 x hx
  exact ⟨q1, q2, l, q3, own_at q4 hk, q5, fun i y hi => ⟨(q6 i y hi).1, (q6 i y hi).2.at hs hk⟩⟩
theorem RowT.mono {base base' : Nat} {u : Value} {w : World} {ts : List TreeH} (h : RowT base u w ts) (hb : base' ≤ base) : RowT base' u w ts := by
  refine ⟨own_mono h.1 hb, fun x hx => ?_⟩
  obtain ⟨q1, q2, l, q3, q4, q5, q6⟩ := h.2 x hx
  exact ⟨q1, q2, l, q3, own_mono q4 hb, q5, fun i y hi => ⟨(q6 i y hi).1, fun h00 => by
    obtain ⟨b', off', e1, e2, e3⟩ := (q6 i y hi).2 h00
    exact ⟨b', off', e1, Nat.le_trans hb e2, e3⟩⟩⟩
theorem put6_size (w : World) (g : Nat) (a b c d e f : Value) : (put6 w g a b c d e f).heap.size = w.heap.size := by simp [put6, World.setCell]
theorem RowT.put {base : Nat} {u : Value} {w : World} {ts : List TreeH} (h : RowT base u w ts) {g : Nat} (hg : g < base) (a b c d e f : Value) : RowT base u (put6 w g a b c d e f) ts :=
  h.at (by rw [put6_size]; exact Nat.le_refl _) (fun k hk _ => put6_other (by omega) _ _ _ _ _ _)
end Go.Proofs.YtnfokaecobddkaaGreatDoor
end
section
namespace Go.Proofs.YtnfokaecobddkaaGreatDoor
open Go.RowKit
set_option linter.unusedSimpArgs false
set_option linter.unusedVariables false
end Go.Proofs.YtnfokaecobddkaaGreatDoor
end
section
namespace Go.Proofs.YtnfokaecobddkaaGreatDoor
open Go.RowKit
set_option linter.unusedSimpArgs false
set_option linter.unusedVariables false
section
variable {ops : Array Oper} {w0 : World} {Fin : List Ty → Prop} {rest : List Oper} {E : Env} {Ts : List Ty} {o : Oper}
end
end Go.Proofs.YtnfokaecobddkaaGreatDoor
end
section
namespace Go.Proofs.YtnfokaecobddkaaGreatDoor
open Go.RowKit
set_option linter.unusedSimpArgs false
set_option linter.unusedVariables false
end Go.Proofs.YtnfokaecobddkaaGreatDoor
end
section
namespace Go.Proofs.YtnfokaecobddkaaGreatDoor
open Go.RowKit
set_option linter.unusedSimpArgs false
set_option linter.unusedVariables false
section
variable {ops : Array Oper} {w0 : World} {Fin : List Ty → Prop} {rest : List Oper} {E : Env} {Ts : List Ty} {o : Oper}
end
end Go.Proofs.YtnfokaecobddkaaGreatDoor
end
section
namespace Go.Proofs.YtnfokaecobddkaaGreatDoor
open Go.RowKit
set_option linter.unusedSimpArgs false
set_option linter.unusedVariables false
def mn (x : Nat) : Int := min (x : Int) 20000
theorem mn_bd (x : Nat) : 0 ≤ mn x ∧ mn x ≤ 20000 := by unfold mn; omega
def SmallN (n : NodeL) : Prop := n.space.size ≤ 2000 ∧ n.name.size ≤ 2000 ∧ n.text.size ≤ 2000 ∧ n.attrs.length ≤ 30 ∧ ∀ (i : Nat) (a : AttrL), i < n.attrs.length → n.attrs[i]? = some a → SzA 2000 a
section
variable {ops : Array Oper} {w0 : World} {Fin : List Ty → Prop} {rest : List Oper} {E : Env} {Ts : List Ty} {o : Oper}
theorem tw_ixN0 {x y : Operand} {b off n c k : Nat} (hk : k < n) (hop : o.op = .indexAddr 30 x y) (hx : evalE E x = some (.slice (some ⟨b, off, none⟩) n c)) (hy : evalE E y = some (.int .i64 (k : Int))) (hw : Wd ops o E true)
    (hr : wpT Tryz.prog ops w0 Fin rest (E.put o.dst (.inl (.pointer (some ⟨b, off + k * 6, none⟩)))) (.inl (.pointer (some ⟨b, off + k * 6, none⟩)) :: Ts)) : wpT Tryz.prog ops w0 Fin (o :: rest) E Ts :=
  tw_pure _ hw (fun a W hW hs => by
    have h1 : a.eval x = _ := evalE_of hx (by rw [hop]; simp [Op.operands]) hs
    have h2 : a.eval y = _ := evalE_of hy (by rw [hop]; simp [Op.operands]) hs
    unfold execOp
    simp only [hop, h1, h2]
    go_simp) hr
theorem tw_min20 {x : Operand} (m : Nat) (hop : o.op = .call { callee := .builtin .min, args := #[x, .const (.int .i64 20000)], argTypes := #[3, 3] }) (hx : evalE E x = some (.int .i64 (m : Int))) (hw : Wd ops o E true)
    (hr : wpT Tryz.prog ops w0 Fin rest (E.put o.dst (.inl (.int .i64 (mn m)))) (.inl (.int .i64 (mn m)) :: Ts)) : wpT Tryz.prog ops w0 Fin (o :: rest) E Ts :=
  tw_pure _ hw (fun a W hW hs => by
    have h1 : a.eval x = .int .i64 (m : Int) := evalE_of hx (by rw [hop]; simp [Op.operands, Call.operands]) hs
    have h2 : a.eval (.const (.int .i64 20000)) = .int .i64 20000 := rfl
    unfold execOp mn
    simp only [hop, resolve, invoke, builtin, Sem.run_bind, Sem.run_pure, Result.andThen_ok, List.map_toArray, List.map_cons, List.map_nil, h1, h2]
    go_simp
    first | done | omega | (split <;> omega)) hr
theorem tw_addI {x y : Operand} {p q : Int} (hb : -9000000000000000000 ≤ p + q ∧ p + q ≤ 9000000000000000000) (hop : o.op = .binOp .add 3 x y 3) (hx : evalE E x = some (.int .i64 p)) (hy : evalE E y = some (.int .i64 q)) (hw : Wd ops o E true)
    (hr : wpT Tryz.prog ops w0 Fin rest (E.put o.dst (.inl (.int .i64 (p + q)))) (.inl (.int .i64 (p + q)) :: Ts)) : wpT Tryz.prog ops w0 Fin (o :: rest) E Ts :=
  tw_pure _ hw (fun a W hW hs => by
    have h1 : a.eval x = _ := evalE_of hx (by rw [hop]; simp [Op.operands]) hs
    have h2 : a.eval y = _ := evalE_of hy (by rw [hop]; simp [Op.operands]) hs
    unfold execOp
    simp only [hop, h1, h2]
    go_simp
    have hwr : IntKind.wrap .i64 (p + q) = p + q := by simp only [IntKind.wrap, IntKind.bits, IntKind.signed]; simp; split <;> omega
    rw [hwr]) hr
end
def GreatPost (v : List NodeL) (w : World) (e : Ending) (w' : World) : Prop :=
  ∃ g, e = .returned (.bool g) ∧ Below w.heap.size w w' ∧ (g = false → v.length ≤ 60 ∧ ∀ (i : Nat) (n : NodeL), i < v.length → v[i]? = some n → SmallN n)
theorem GreatPost.yes {v : List NodeL} {w w' : World} (h : Below w.heap.size w w') : GreatPost v w (.returned (.bool true)) w' := ⟨true, rfl, h, fun h => by cases h⟩
theorem GreatPost.no {v : List NodeL} {w w' : World} (h : Below w.heap.size w w') (h1 : v.length ≤ 60) (h2 : ∀ (i : Nat) (n : NodeL), i < v.length → v[i]? = some n → SmallN n) : GreatPost v w (.returned (.bool false)) w' := ⟨false, rfl, h, fun _ => ⟨h1, h2⟩⟩
end Go.Proofs.YtnfokaecobddkaaGreatDoor
end
section
namespace Go.Proofs.YtnfokaecobddkaaGreatDoor
open Go.RowKit
set_option linter.unusedVariables false
set_option linter.unusedSimpArgs false
end Go.Proofs.YtnfokaecobddkaaGreatDoor
end
section
namespace Go.Proofs.YtnfokaecobddkaaGreatDoor
open Go.RowKit
set_option linter.unusedSimpArgs false
set_option linter.unusedVariables false
def ReadP (s : ByteArray) (w : World) (e : Ending) (w' : World) : Prop := e = .returned (.tuple #[.int .i64 (numV s), .int .i64 (numE s)]) ∧ Below w.heap.size w w'
theorem ReadP.no {s : ByteArray} {w w' : World} (h : numOK s = false) (hb : Below w.heap.size w w') : ReadP s w (.returned (.tuple #[.int .i64 0, .int .i64 60])) w' := by
  unfold ReadP
  rw [(num_no h).1, (num_no h).2]
  exact ⟨rfl, hb⟩
theorem ReadP.yes {s : ByteArray} {w w' : World} {v : Int} (h : numOK s = true) (hv : v = valK (numsOf s) s.size) (hb : Below w.heap.size w w') : ReadP s w (.returned (.tuple #[.int .i64 v, .int .i64 0])) w' := by
  unfold ReadP
  rw [(num_yes h).1, (num_yes h).2, hv]
  exact ⟨rfl, hb⟩
theorem num_dig {s : ByteArray} (h : digK (numsOf s) s.size = false) : numOK s = false := by unfold numOK; rw [h, Bool.and_false]; rfl
end Go.Proofs.YtnfokaecobddkaaGreatDoor
end
section
namespace Go.Proofs.YtnfokaecobddkaaGreatDoor
open Go.RowKit
set_option linter.unusedSimpArgs false
set_option linter.unusedVariables false
def LevP (s : ByteArray) (w : World) (e : Ending) (w' : World) : Prop := e = .returned (.tuple #[.int .i64 (levV s), .int .i64 (levE s)]) ∧ Below w.heap.size w w'
theorem LevP.no {s : ByteArray} {w w' : World} (h : levOK s = false) (hb : Below w.heap.size w w') : LevP s w (.returned (.tuple #[.int .i64 0, .int .i64 60])) w' := by
  unfold LevP levV levE
  rw [h]
  exact ⟨rfl, hb⟩
theorem LevP.yes {s : ByteArray} {w w' : World} {v : Int} (h : levOK s = true) (hv : v = levS s * numV (levT s)) (hb : Below w.heap.size w w') : LevP s w (.returned (.tuple #[.int .i64 v, .int .i64 0])) w' := by
  unfold LevP levV levE
  rw [h, hv]
  exact ⟨rfl, hb⟩
end Go.Proofs.YtnfokaecobddkaaGreatDoor
end
section
namespace Go.Proofs.YtnfokaecobddkaaGreatDoor
open Go.RowKit
set_option linter.unusedSimpArgs false
set_option linter.unusedVariables false
end Go.Proofs.YtnfokaecobddkaaGreatDoor
end
section
namespace Go.Proofs.YtnfokaecobddkaaGreatDoor
open Go.RowKit
set_option linter.unusedSimpArgs false
set_option linter.unusedVariables false
def saidT (v : List NodeL) (k : Nat) : List UInt8 := (nodeAt v k).text.data.toList
def saidI (v : List NodeL) : ByteArray := ⟨((kidsI v 0).flatMap (saidT v)).toArray⟩
end Go.Proofs.YtnfokaecobddkaaGreatDoor
end
section
namespace Go.Proofs.YtnfokaecobddkaaGreatDoor
open Go.RowKit
set_option linter.unusedSimpArgs false
set_option linter.unusedVariables false
def isEl (space name : ByteArray) (v : List NodeL) : Bool := ((nodeAt v 0).space.toList == space.toList) && ((nodeAt v 0).name.toList == name.toList)
def firstV (space name : ByteArray) (l : List (List NodeL)) : List NodeL := match fstP (isEl space name) l with
  | some i => l.getD i []
  | none => []
def firstB (space name : ByteArray) (l : List (List NodeL)) : Bool := (fstP (isEl space name) l).isSome
def FirstPost (space name : ByteArray) (l : List (List NodeL)) (w : World) (e : Ending) (w' : World) : Prop :=
  ∃ A c, e = .returned (.tuple #[.slice A (firstV space name l).length c, .bool (firstB space name l)]) ∧ (firstV space name l).length ≤ c ∧ RdV w' w'.heap.size A (firstV space name l) ∧ Below w.heap.size w w'
theorem FirstPost.no {space name : ByteArray} {l : List (List NodeL)} {w w' : World} (h : Below w.heap.size w w') (h1 : fstP (isEl space name) l = none) : FirstPost space name l w (.returned (.tuple #[.slice none 0 0, .bool false])) w' := by
  unfold FirstPost firstV firstB
  rw [h1]
  exact ⟨none, 0, rfl, Nat.le_refl _, fun h => absurd h (by simp), h⟩
theorem FirstPost.yes {space name : ByteArray} {l : List (List NodeL)} {w w' : World} {i : Nat} {v : List NodeL} {A : Option Addr} {c : Nat} (h : Below w.heap.size w w') (h1 : fstP (isEl space name) l = some i) (hv : l[i]? = some v) (hc : v.length ≤ c) (hr : RdV w' w'.heap.size A v) :
    FirstPost space name l w (.returned (.tuple #[.slice A v.length c, .bool true])) w' := by
  have e : firstV space name l = v := by unfold firstV; rw [h1]; simp [List.getD_eq_getElem?_getD, hv]
  unfold FirstPost
  rw [e]
  unfold firstB
  rw [h1]
  exact ⟨A, c, rfl, hc, hr, h⟩
end Go.Proofs.YtnfokaecobddkaaGreatDoor
end
section
namespace Go.Proofs.YtnfokaecobddkaaGreatDoor
open Go.RowKit
set_option linter.unusedSimpArgs false
set_option linter.unusedVariables false
def prioV (s : StL) : List NodeL := firstV (⟨#[106, 97, 98, 98, 101, 114, 58, 99, 108, 105, 101, 110, 116]⟩ : ByteArray) (⟨#[112, 114, 105, 111, 114, 105, 116, 121]⟩ : ByteArray) s.load
def prioB (s : StL) : Bool := firstB (⟨#[106, 97, 98, 98, 101, 114, 58, 99, 108, 105, 101, 110, 116]⟩ : ByteArray) (⟨#[112, 114, 105, 111, 114, 105, 116, 121]⟩ : ByteArray) s.load
def lvV (s : StL) : Int := if prioB s then levV (saidI (prioV s)) else 0
def lvB (s : StL) : Bool := !prioB s || levOK (saidI (prioV s))
def prV (s : StL) : Int := if stnI s && decide (s.kind = 2) && lvB s then lvV s else 0
def prE (s : StL) : Int := if stnI s then (if s.kind = 2 then (if lvB s then 0 else 220) else 2) else 8
def PrioPost (s : StL) (w : World) (e : Ending) (w' : World) : Prop := e = .returned (.tuple #[.int .i64 (prV s), .int .i64 (prE s)]) ∧ Below w.heap.size w w'
theorem PrioPost.kind {s : StL} {w w' : World} (h : stnI s = true) (hk : ¬ s.kind = 2) (hb : Below w.heap.size w w') : PrioPost s w (.returned (.tuple #[.int .i64 0, .int .i64 2])) w' := by
  unfold PrioPost prV prE
  rw [h, decide_eq_false hk, if_pos rfl, if_neg hk]
  exact ⟨rfl, hb⟩
theorem PrioPost.none {s : StL} {w w' : World} (h : stnI s = true) (hk : s.kind = 2) (hp : prioB s = false) (hb : Below w.heap.size w w') : PrioPost s w (.returned (.tuple #[.int .i64 0, .int .i64 0])) w' := by
  unfold PrioPost prV prE lvB lvV
  rw [h, decide_eq_true hk, if_pos rfl, if_pos hk, hp]
  exact ⟨rfl, hb⟩
theorem PrioPost.no {s : StL} {w w' : World} (h : stnI s = true) (hk : s.kind = 2) (hp : prioB s = true) (hl : levOK (saidI (prioV s)) = false) (hb : Below w.heap.size w w') : PrioPost s w (.returned (.tuple #[.int .i64 0, .int .i64 220])) w' := by
  unfold PrioPost prV prE lvB lvV
  rw [h, decide_eq_true hk, if_pos rfl, if_pos hk, hp, hl]
  exact ⟨rfl, hb⟩
theorem PrioPost.yes {s : StL} {w w' : World} {v : Int} (h : stnI s = true) (hk : s.kind = 2) (hp : prioB s = true) (hl : levOK (saidI (prioV s)) = true) (hv : v = levV (saidI (prioV s))) (hb : Below w.heap.size w w') : PrioPost s w (.returned (.tuple #[.int .i64 v, .int .i64 0])) w' := by
  unfold PrioPost prV prE lvB lvV
  rw [h, decide_eq_true hk, if_pos rfl, if_pos hk, hp, hl, hv]
  exact ⟨rfl, hb⟩
end Go.Proofs.YtnfokaecobddkaaGreatDoor
end
section
namespace Go.Proofs.YtnfokaecobddkaaGreatDoor
structure WantL where
  kind : Int
  res : ByteArray
  jid : ByteArray
  name : ByteArray
  groups : List ByteArray
  gone : Bool
end Go.Proofs.YtnfokaecobddkaaGreatDoor
end
section
namespace Go.Proofs.YtnfokaecobddkaaGreatDoor
open Go.RowKit
set_option linter.unusedSimpArgs false
set_option linter.unusedVariables false
def Row (w : World) (g : Nat) (cs : Array Value) : Prop := ∃ t, w.heap[g]? = some (.cells cs t (0, 0))
section
variable {w w' : World} {g : Nat} {cs : Array Value}
theorem Row.at' {v : Value} (h : Row w g cs) (i : Nat) (hv : cs[i]? = some v) : w.cell? ⟨g, i, none⟩ = some v := by
  obtain ⟨t, h⟩ := h
  rw [cell_of_row w g i cs t (0, 0) h]
  exact hv
theorem Row.fz (h : Row w g cs) (i : Nat) : w.frozen? ⟨g, i, none⟩ = false := by obtain ⟨t, h⟩ := h; exact frozen_of_row w g i _ _ h
theorem Row.lt (h : Row w g cs) : g < w.heap.size := by obtain ⟨t, h⟩ := h; exact (Array.getElem?_eq_some_iff.1 h).1
theorem Row.ext (h : Row w g cs) (hb : Below w.heap.size w w') : Row w' g cs := by obtain ⟨t, h⟩ := h; exact ⟨t, heap_ext h hb⟩
theorem Row.set (h : Row w g cs) (i : Nat) (v : Value) : Row (w.setCell ⟨g, i, none⟩ v) g (cs.setIfInBounds i v) := by obtain ⟨t, h⟩ := h; exact ⟨t, heap_setCell_same w g i _ _ _ h⟩
theorem Row.other (h : Row w g cs) {k : Nat} (hk : g ≠ k) (i : Nat) (v : Value) : Row (w.setCell ⟨k, i, none⟩ v) g cs := by obtain ⟨t, h⟩ := h; exact ⟨t, (heap_setCell_other w _ g _ hk).trans h⟩
theorem Row.new (w : World) (t : TypeId) (cs : Array Value) : Row (w.alloc (.cells cs t)) w.heap.size cs := ⟨t, heap_alloc_new w _⟩
end
end Go.Proofs.YtnfokaecobddkaaGreatDoor
end
section
namespace Go.Proofs.YtnfokaecobddkaaGreatDoor
open Go.RowKit
set_option linter.unusedSimpArgs false
set_option linter.unusedVariables false
theorem mn_le5 {x : Nat} (h : mn x ≤ 500) : x ≤ 500 := by unfold mn at h; omega
def SmallN5 (n : NodeL) : Prop := n.space.size ≤ 500 ∧ n.name.size ≤ 500 ∧ n.text.size ≤ 500 ∧ n.attrs.length ≤ 30 ∧ ∀ (i : Nat) (a : AttrL), i < n.attrs.length → n.attrs[i]? = some a → SzA 500 a
def GreatP5 (v : List NodeL) (w : World) (e : Ending) (w' : World) : Prop :=
  ∃ g, e = .returned (.bool g) ∧ Below w.heap.size w w' ∧ (g = false → v.length ≤ 30 ∧ ∀ (i : Nat) (n : NodeL), i < v.length → v[i]? = some n → SmallN5 n)
theorem GreatP5.yes {v : List NodeL} {w w' : World} (h : Below w.heap.size w w') : GreatP5 v w (.returned (.bool true)) w' := ⟨true, rfl, h, fun h => by cases h⟩
theorem GreatP5.no {v : List NodeL} {w w' : World} (h : Below w.heap.size w w') (h1 : v.length ≤ 30) (h2 : ∀ (i : Nat) (n : NodeL), i < v.length → v[i]? = some n → SmallN5 n) : GreatP5 v w (.returned (.bool false)) w' := ⟨false, rfl, h, fun _ => ⟨h1, h2⟩⟩
set_option maxHeartbeats 16000000 in
set_option maxRecDepth 10000 in
theorem great5_any (v : List NodeL) (A : Option Addr) (c : Nat) (w : World) (hr : RdV w w.heap.size A v) :
    Calls Tryz.prog 12 #[.slice A v.length c, .int .i64 30, .int .i64 500] w (GreatP5 v w) := by
  have HR := Lib.hid hr
  clear hr
  go_enter Tryz.func12, Tryz.ntmps12
  go_wp2
  go_loopw [7, 8, 9, 10] (fun s7 s8 _ _ wr => ∃ (k : Nat) (t : Int), (k ≤ v.length ∧ k ≤ 600) ∧ s7 = .int .i64 t ∧ s8 = .int .i64 k ∧ (0 ≤ t ∧ t ≤ k * 2000000) ∧ Hid (Below w.heap.size w wr) ∧ Hid (t ≤ 500 → ∀ (i : Nat) (n : NodeL), i < k → v[i]? = some n → SmallN5 n)) (fun _ s8 _ _ _ => v.length - (intOf s8).toNat)
  case atStart => exact ⟨0, 0, ⟨Nat.zero_le _, Nat.zero_le _⟩, rfl, rfl, ⟨by omega, by omega⟩, Lib.hid (Below.refl _ _), Lib.hid (fun _ i n hi => absurd hi (by omega))⟩
  case round =>
    obtain ⟨k, t, ⟨hk, hk6⟩, rfl, rfl, ⟨ht0, ht1⟩, HB, HN⟩ := hrel
    by_cases hlt : k < v.length
    · by_cases h600 : k < 600
      · obtain ⟨n, hnn⟩ : ∃ n, v[k]? = some n := ⟨_, List.getElem?_eq_getElem hlt⟩
        have HNN := Lib.hid hnn
        obtain ⟨b, off, rfl, hb, hc⟩ := (HR.out.below HB.out (Nat.le_refl _)) (by omega)
        obtain ⟨d0, d1, d2, ⟨A3, c3, d3, hl3, hA3⟩, d4, d5⟩ := hc k n hnn
        have HA3 := Lib.hid (hA3.more HB.out.size)
        have hbr := Nat.lt_of_lt_of_le hb HB.out.size
        clear hc hnn d0 d5 hA3
        have G1 := Lib.hid (fun W (hW : Ext wr.drew W) => ((ext_below hW).cell (p := ⟨b, off + k * 6 + 1, none⟩) hbr).trans d1)
        have G2 := Lib.hid (fun W (hW : Ext wr.drew W) => ((ext_below hW).cell (p := ⟨b, off + k * 6 + 2, none⟩) hbr).trans d2)
        have G4 := Lib.hid (fun W (hW : Ext wr.drew W) => ((ext_below hW).cell (p := ⟨b, off + k * 6 + 4, none⟩) hbr).trans d4)
        have D3 := Lib.hid d3
        clear d1 d2 d3 d4
        have m1 := mn_bd n.name.size
        have m2 := mn_bd n.space.size
        have m3 := mn_bd n.text.size
        go_wp2
        refine wp_region_typed rfl (by kernel_rfl) (by kernel_rfl) ?_
        repeat (first | refine tw_ixN0 hlt rfl rfl rfl (by first | exact wd_none rfl | exact wd_yes rfl rfl rfl) ?_ | refine tw_ldS rfl rfl G1.out (by first | exact wd_none rfl | exact wd_yes rfl rfl rfl) ?_ | refine tw_ldS rfl rfl G2.out (by first | exact wd_none rfl | exact wd_yes rfl rfl rfl) ?_ | refine tw_ldS rfl rfl G4.out (by first | exact wd_none rfl | exact wd_yes rfl rfl rfl) ?_ | refine tw_lens rfl rfl (by first | exact wd_none rfl | exact wd_yes rfl rfl rfl) ?_ | refine tw_min20 _ rfl rfl (by first | exact wd_none rfl | exact wd_yes rfl rfl rfl) ?_ | refine tw_addI (by omega) rfl rfl rfl (by first | exact wd_none rfl | exact wd_yes rfl rfl rfl) ?_ | refine tw_skip (wd_no rfl rfl rfl) ?_ | refine tw_mv (.inl rfl) rfl (by first | exact wd_none rfl | exact wd_yes rfl rfl rfl) ?_ | refine tw_mv (.inr rfl) rfl (by first | exact wd_none rfl | exact wd_yes rfl rfl rfl) ?_ | refine tw_pickL rfl rfl rfl (by first | exact wd_none rfl | exact wd_yes rfl rfl rfl) ?_ | refine tw_op1 _ rfl rfl (by first | exact wd_none rfl | exact wd_yes rfl rfl rfl) (fun ρ W hW h1 => by simp only [execOp, h1]; go_simp; first | done | rfl) ?_ | refine tw_op2 _ rfl rfl rfl (by first | exact wd_none rfl | exact wd_yes rfl rfl rfl) (fun ρ W hW h1 h2 => by simp only [execOp, h1, h2]; go_simp; first | done | rfl) ?_)
        dsimp only [wpT, List.reverse, List.reverseAux, FinT]
        intro W7 hW7 _
        simp only [Act.put, List.setIfInBounds_toArray, List.set_cons_zero, List.set_cons_succ]
        have hb7 : Below wr.heap.size wr W7 := ext_below hW7
        have HB7 := Lib.hid (HB.out.trans (hb7.mono HB.out.size))
        have d3 := (hb7.cell (p := ⟨b, off + k * 6 + 3, none⟩) hbr).trans D3.out
        have HA7 := Lib.hid ((HA3.out.below hb7 (Nat.le_refl _)).more hb7.size)
        have hb77 := Nat.lt_of_lt_of_le hbr hb7.size
        clear hW7 hb7 G1 G2 G4 D3 HA3
        obtain ⟨t1, ht1'⟩ : ∃ t1, t1 = t + mn n.name.size + mn n.space.size + mn n.text.size := ⟨_, rfl⟩
        have HT1 := Lib.hid ht1'
        have q1 : 0 ≤ t1 ∧ t ≤ t1 ∧ t1 ≤ k * 2000000 + 60000 := by omega
        rw [← ht1']
        clear ht1'
        by_cases h3x : 30 < n.attrs.length
        · have h3xi : (30 : Int) < (n.attrs.length : Int) := by omega
          go_wp2
          go_ret
          exact GreatP5.yes HB7.out
        · have h3xi : ¬ (30 : Int) < (n.attrs.length : Int) := by omega
          by_cases h5h : 500 < t1
          · go_wp2
            go_ret
            exact GreatP5.yes HB7.out
          · have hsm : n.space.size ≤ 500 ∧ n.name.size ≤ 500 ∧ n.text.size ≤ 500 := by
              have := HT1.out
              exact ⟨mn_le5 (by omega), mn_le5 (by omega), mn_le5 (by omega)⟩
            clear m1 m2 m3
            go_wp2
            go_loopw [7, 9, 10] (fun s7 s9 _ wi => ∃ (j : Nat) (t2 : Int), j ≤ n.attrs.length ∧ s7 = .int .i64 t2 ∧ s9 = .int .i64 j ∧ (t1 ≤ t2 ∧ t2 ≤ t1 + j * 60000) ∧ Hid (Below W7.heap.size W7 wi) ∧ Hid (t2 ≤ 500 → ∀ (i : Nat) (a : AttrL), i < j → n.attrs[i]? = some a → SzA 500 a)) (fun _ s9 _ _ => n.attrs.length - (intOf s9).toNat)
            case atStart => exact ⟨0, t1, Nat.zero_le _, rfl, rfl, ⟨by omega, by omega⟩, Lib.hid (Below.refl _ _), Lib.hid (fun _ i a hi => absurd hi (by omega))⟩
            case round =>
              obtain ⟨j, t2, hj, rfl, rfl, ⟨hu0, hu1⟩, HBI, HNI⟩ := hrel
              have e3 := (HBI.out.cell (p := ⟨b, off + k * 6 + 3, none⟩) hb77).trans d3
              by_cases hlj : j < n.attrs.length
              · obtain ⟨a, ha⟩ : ∃ a, n.attrs[j]? = some a := ⟨_, List.getElem?_eq_getElem hlj⟩
                have HA := Lib.hid ha
                obtain ⟨b3, o3, rfl, hb3, hc3⟩ := HA7.out (by omega)
                obtain ⟨f0, f1, f2⟩ := hc3 j a ha
                have g0 := (HBI.out.cell (p := ⟨b3, o3 + j * 3, none⟩) hb3).trans f0
                have g1 := (HBI.out.cell (p := ⟨b3, o3 + j * 3 + 1, none⟩) hb3).trans f1
                have g2 := (HBI.out.cell (p := ⟨b3, o3 + j * 3 + 2, none⟩) hb3).trans f2
                have HXI := Lib.hid (HBI.out.alloc HBI.out.size (.cells #[.string a.space, .string a.name, .string a.value] 80))
                have m1 := mn_bd a.name.size
                have m2 := mn_bd a.space.size
                have m3 := mn_bd a.value.size
                have HNJ : Hid (t2 + mn a.name.size + mn a.space.size + mn a.value.size ≤ 500 → ∀ (i : Nat) (x : AttrL), i < j + 1 → n.attrs[i]? = some x → SzA 500 x) := Lib.hid (fun h i x hi hx => by
                  rcases Nat.lt_or_ge i j with h1 | h1
                  · exact HNI.out (by omega) i x h1 hx
                  · obtain rfl : i = j := by omega
                    rw [HA.out] at hx
                    simp only [Option.some.injEq] at hx
                    subst hx
                    exact ⟨mn_le5 (by omega), mn_le5 (by omega), mn_le5 (by omega)⟩)
                clear f0 f1 f2 hc3 ha
                unfold mn at *
                go_wp2
                go_roundw
                case rel => exact ⟨j + 1, t2 + min (a.name.size : Int) 20000 + min (a.space.size : Int) 20000 + min (a.value.size : Int) 20000, by omega, by go_num, by go_num, ⟨by omega, by omega⟩, HXI, HNJ⟩
                case measure => simp [intOf]; omega
              · obtain rfl : j = n.attrs.length := by omega
                have HBO := Lib.hid (HB7.out.trans (HBI.out.mono HB7.out.size))
                have HNO : Hid (t2 ≤ 500 → ∀ (i : Nat) (x : NodeL), i < k + 1 → v[i]? = some x → SmallN5 x) := Lib.hid (fun h i x hi hx => by
                  rcases Nat.lt_or_ge i k with h1 | h1
                  · exact HN.out (by omega) i x h1 hx
                  · obtain rfl : i = k := by omega
                    rw [HNN.out] at hx
                    simp only [Option.some.injEq] at hx
                    subst hx
                    exact ⟨hsm.1, hsm.2.1, hsm.2.2, by omega, HNI.out h⟩)
                go_wp2
                go_roundw
                case rel => exact ⟨k + 1, t2, ⟨by omega, by omega⟩, rfl, by go_num, ⟨by omega, by omega⟩, HBO, HNO⟩
                case measure => simp [intOf]; omega
      · obtain rfl : k = 600 := by omega
        have h60 : (30 : Int) < (v.length : Int) := by omega
        go_wp2
        go_ret
        exact GreatP5.yes HB.out
    · obtain rfl : k = v.length := by omega
      by_cases h60 : (30 : Int) < (v.length : Int)
      · go_wp2
        go_ret
        exact GreatP5.yes HB.out
      · by_cases h5h : 500 < t
        · go_wp2
          go_ret
          exact GreatP5.yes HB.out
        · go_wp2
          go_ret
          exact GreatP5.no HB.out (by omega) (HN.out (by omega))
end Go.Proofs.YtnfokaecobddkaaGreatDoor
end
section
namespace Go.Proofs.YtnfokaecobddkaaGreatDoor
open Go.RowKit
set_option linter.unusedSimpArgs false
set_option linter.unusedVariables false
end Go.Proofs.YtnfokaecobddkaaGreatDoor
end
section
namespace Go.Proofs.YtnfokaecobddkaaGreatDoor
open Go.RowKit
set_option linter.unusedSimpArgs false
set_option linter.unusedVariables false
def SmallV5 (v : List NodeL) : Prop := v.length ≤ 30 ∧ ∀ (i : Nat) (n : NodeL), i < v.length → v[i]? = some n → SmallN5 n
def GreatS (s : StL) (w : World) (e : Ending) (w' : World) : Prop :=
  ∃ g, e = .returned (.bool g) ∧ Below w.heap.size w w' ∧ (g = false → s.load.length ≤ 20 ∧ ∀ (i : Nat) (v : List NodeL), i < s.load.length → s.load[i]? = some v → SmallV5 v)
theorem GreatS.yes {s : StL} {w w' : World} (h : Below w.heap.size w w') : GreatS s w (.returned (.bool true)) w' := ⟨true, rfl, h, fun h => by cases h⟩
theorem GreatS.no {s : StL} {w w' : World} (h : Below w.heap.size w w') (h1 : s.load.length ≤ 20) (h2 : ∀ (i : Nat) (v : List NodeL), i < s.load.length → s.load[i]? = some v → SmallV5 v) : GreatS s w (.returned (.bool false)) w' := ⟨false, rfl, h, fun _ => ⟨h1, h2⟩⟩
end Go.Proofs.YtnfokaecobddkaaGreatDoor
end
