/- Part 22 of a proof laid in parts, one behind the other; no condition of its own. -/
import Derived.Test.YtnmnpnofdgdigaaGreatDoorZ21
import Derived.Test.YtnmnpnofdgdigaaGreatDoorZ15
set_option linter.all false
section
namespace Go.Proofs.YtnmnpnofdgdigaaGreatDoor
open Go.RowKit
set_option linter.unusedSimpArgs false
set_option linter.unusedVariables false
theorem any_take_succ {α:Type} {p:α→Bool} {l:List α} {k:Nat} {x:α} (hx:l[k]? = some x) (h:(l.take k).any p=false):(l.take (k+1)).any p=p x:=by
 rw [List.take_add_one,hx,List.any_append,h]
 simp
theorem any_take_hit {α:Type} {p:α→Bool} {l:List α} {k:Nat} {x:α} (hx:l[k]? = some x) (h:p x=true):l.any p=true:=List.any_eq_true.2 ⟨x,List.mem_of_getElem? hx,h⟩
set_option maxHeartbeats 16000000 in
set_option maxRecDepth 10000 in
theorem refsp_any (v : List NodeL) (A : Option Addr) (c : Nat) (w : World) (hc : v.length ≤ c) (hz : SzV 1000000000 v) (hr : RdV w w.heap.size A v) :
    Calls Tryz.prog 35 #[.slice A v.length c] w fun e w' => e = .returned (.bool (spaceI v)) ∧ Below w.heap.size w w' := by
  have HG : Box (spaceI v = (!v.any oddN && treeI v)) := ⟨rfl⟩
  have HT := Lib.hid (fun W (hW : Below w.heap.size w W) => refmay10_any v A c W hc hz ((hr.below hW (Nat.le_refl _)).more hW.size))
  have HR := Lib.hid hr
  have HZ := Lib.hid hz
  have hlen := hz.1
  clear hr hz
  generalize spaceI v = r at *
  generalize treeI v = te at *
  go_enter Tryz.func35, Tryz.ntmps35
  go_wp2
  go_loopw [3, 4, 5] (fun s3 _ _ wr => ∃ k : Nat, k ≤ v.length ∧ s3 = .int .i64 k ∧ Hid (Below w.heap.size w wr) ∧ Hid ((v.take k).any oddN = false)) (fun s3 _ _ _ => v.length - (intOf s3).toNat)
  case atStart => exact ⟨0, Nat.zero_le _, rfl, Lib.hid (Below.refl _ _), rfl⟩
  case round =>
    obtain ⟨k, hk, rfl, HB, HN⟩ := hrel
    by_cases hlt : k < v.length
    · obtain ⟨x, hx⟩ : ∃ x, v[k]? = some x := ⟨_, List.getElem?_eq_getElem hlt⟩
      have HX := Lib.hid hx
      obtain ⟨b, off, rfl, hb, hcc⟩ := HR.out (by omega)
      have hzx := szv_get HZ.out hx
      obtain ⟨A', c', hND, hac⟩ := nd_in (hcc k x hx) hb (Nat.le_refl _)
      have HND := Lib.hid hND
      obtain ⟨d0, d1, d2, d3, -, -, -⟩ := hND wr HB.out
      have H1 := Lib.hid (fun W => refname_any x.name W hzx.2.2.1)
      have HZA := Lib.hid hzx.2.2.2.1
      have hal := hzx.2.2.2.1.1
      have HO : Box (oddN x = ((decide (x.kind = 1) && !nameI x.name) || givenB x.space || x.attrs.any oddA)) := ⟨rfl⟩
      have HGB : Box (givenB x.space = ((x.space.toList == [104, 116, 116, 112, 58, 47, 47, 119, 119, 119, 46, 119, 51, 46, 111, 114, 103, 47, 88, 77, 76, 47, 49, 57, 57, 56, 47, 110, 97, 109, 101, 115, 112, 97, 99, 101]) || (x.space.toList == [104, 116, 116, 112, 58, 47, 47, 119, 119, 119, 46, 119, 51, 46, 111, 114, 103, 47, 50, 48, 48, 48, 47, 120, 109, 108, 110, 115, 47]))) := ⟨rfl⟩
      clear hx hcc hND hzx
      generalize nameI x.name = n1 at *
      cases hf : (decide (x.kind = 1) && !n1) || givenB x.space with
      | true =>
        have HOT : Box (r = false) := ⟨by rw [HG.out, any_take_hit HX.out (by rw [HO.out, hf]; rfl)]; rfl⟩
        by_cases hk1 : x.kind = 1
        · rw [hk1] at d0
          rw [HGB.out, hk1] at hf
          cases n1
          all_goals
            simp at hf
            go_wp2_with (first
                | (go_at_call 44; refine (H1.out _).mono ?_; rintro e w1 ⟨rfl, rfl⟩))
            all_goals first
              | (go_ret; exact ⟨ret_bool HOT.out.symm, HB.out⟩)
              | (exfalso; simp_all; done)
        · have hk' : (x.kind == 1) = false := by simpa using hk1
          rw [HGB.out, decide_eq_false hk1] at hf
          simp at hf
          clear hk1
          go_wp2
          all_goals first
            | (go_ret; exact ⟨ret_bool HOT.out.symm, HB.out⟩)
            | (exfalso; simp_all; done)
      | false =>
        rw [Bool.or_eq_false_iff, HGB.out, Bool.or_eq_false_iff] at hf
        obtain ⟨hf1, hf2, hf3⟩ := hf
        have HOA : Box (oddN x = x.attrs.any oddA) := ⟨by rw [HO.out, hf1, HGB.out, hf2, hf3]; rfl⟩
        have hcase : (x.kind = 1 ∧ n1 = true) ∨ (x.kind == 1) = false := by
          by_cases hk1 : x.kind = 1
          · left
            rw [decide_eq_true hk1] at hf1
            exact ⟨hk1, by simpa using hf1⟩
          · right; simpa using hk1
        clear hf1
        rcases hcase with ⟨hk1, rfl⟩ | hk1
        all_goals
          try rw [hk1] at d0
          go_wp2_with (first
              | (go_at_call 44; refine (H1.out _).mono ?_; rintro e w1 ⟨rfl, rfl⟩))
          clear d0 d1 d2 d3
          go_loopw [4, 5] (fun s4 _ wq => ∃ j : Nat, j ≤ x.attrs.length ∧ s4 = .int .i64 j ∧ Hid (Below w.heap.size w wq) ∧ Hid ((x.attrs.take j).any oddA = false)) (fun s4 _ _ => x.attrs.length - (intOf s4).toNat)
          case atStart => exact ⟨0, Nat.zero_le _, rfl, HB, rfl⟩
          case round =>
            obtain ⟨j, hj, rfl, HB2, HN2⟩ := hrel
            obtain ⟨-, -, -, d3, -, -, hA⟩ := HND.out wr HB2.out
            by_cases hjl : j < x.attrs.length
            · obtain ⟨a, ha⟩ : ∃ a, x.attrs[j]? = some a := ⟨_, List.getElem?_eq_getElem hjl⟩
              have HA := Lib.hid ha
              obtain ⟨b2, off2, rfl, hb2, hcc2⟩ := hA (by omega)
              obtain ⟨a0, a1, a2⟩ := hcc2 j a ha
              have H2 := Lib.hid (fun W => refname_any a.name W (HZA.out.2 a (List.mem_of_getElem? ha)).2.1)
              have HOO : Box (oddA a = (!nameI a.name || (a.space.toList.isEmpty && (a.name.toList == [120, 109, 108, 110, 115])) || (a.space.toList == [104, 116, 116, 112, 58, 47, 47, 119, 119, 119, 46, 119, 51, 46, 111, 114, 103, 47, 50, 48, 48, 48, 47, 120, 109, 108, 110, 115, 47]))) := ⟨rfl⟩
              have hsz2 := HB2.out.size
              have HX2 : Hid (Below w.heap.size w (wr.alloc (.cells #[.string a.space, .string a.name, .string a.value] 75))) := HB2.out.alloc hsz2 _
              have hne2 : b2 ≠ wr.heap.size := by omega
              have hneb : b ≠ wr.heap.size := by omega
              clear ha hcc2
              generalize nameI a.name = n2 at *
              cases hq : oddA a with
              | true =>
                have HOT : Box (r = false) := ⟨by rw [HG.out, any_take_hit HX.out (by rw [HOA.out]; exact any_take_hit HA.out hq)]; rfl⟩
                rw [hq] at HOO
                have hoo := HOO.out
                cases n2
                all_goals
                  simp at hoo
                  go_wp2_with (first
                      | (go_at_call 44; refine (H2.out _).mono ?_; rintro e w1 ⟨rfl, rfl⟩))
                  all_goals first
                    | (go_ret; exact ⟨ret_bool HOT.out.symm, HX2.out⟩)
                    | (exfalso; simp_all; done)
              | false =>
                rw [hq] at HOO
                have hoo := HOO.out.symm
                simp only [Bool.or_eq_false_iff, Bool.and_eq_false_iff, Bool.not_eq_false'] at hoo
                obtain ⟨⟨rfl, ho2⟩, ho3⟩ := hoo
                have HNX : Hid ((x.attrs.take (j + 1)).any oddA = false) := by show _ = _; rw [any_take_succ HA.out HN2.out, hq]
                clear hq
                rcases ho2 with ho2 | ho2
                all_goals
                  go_wp2_with (first
                      | (go_at_call 44; refine (H2.out _).mono ?_; rintro e w1 ⟨rfl, rfl⟩))
                  all_goals first
                    | (exfalso; simp_all; done)
                    | (go_roundw
                       case rel => exact ⟨j + 1, by omega, by go_num, HX2, HNX⟩
                       case measure => simp [intOf]; omega)
            · obtain rfl : j = x.attrs.length := by omega
              have HNX : Hid ((v.take (k + 1)).any oddN = false) := by show _ = _; rw [any_take_succ HX.out HN.out, HOA.out]; simpa using HN2.out
              clear hA
              generalize x.attrs.length = al at *
              go_wp2
              go_roundw
              case rel => exact ⟨k + 1, by omega, by go_num, HB2, HNX⟩
              case measure => simp [intOf]; omega
    · obtain rfl : k = v.length := by omega
      have HNV : Box (v.any oddN = false) := ⟨by have := HN.out; rwa [List.take_length] at this⟩
      generalize v.length = N at *
      go_wp2_with (first
          | (go_at_call 82; refine (HT.out _ HB.out).mono ?_; rintro e w1 ⟨rfl, hb2⟩))
      go_ret
      exact ⟨ret_bool (by rw [HG.out, HNV.out]; rfl), HB.out.trans (hb2.mono HB.out.size)⟩
end Go.Proofs.YtnmnpnofdgdigaaGreatDoor
end
