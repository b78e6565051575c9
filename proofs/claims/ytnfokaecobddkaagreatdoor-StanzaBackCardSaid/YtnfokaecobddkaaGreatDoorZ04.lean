/- Part 4 of a proof laid in parts, one behind the other; no condition of its own. -/
import Derived.Test.YtnfokaecobddkaaGreatDoorZ03
import Derived.Lib.IndexLaws
import Derived.Test.YtnfokaecobddkaaGreatDoorZ01
import Derived.Test.YtnfokaecobddkaaGreatDoorZ02
import Derived.Deep.Slices
import Derived.Deep.Fields
import Derived.ChangeSame
import Derived.Outline
import Derived.Laws.Cover3
set_option linter.all false
section
namespace Go.Proofs.YtnfokaecobddkaaGreatDoor
open Go.RowKit
set_option linter.unusedSimpArgs false
set_option linter.unusedVariables false
theorem idx_none (s : ByteArray) (c : UInt8) (h : fstL (numsOf s) (c.toNat : Int) = none) : Lib.indexByte s.data.toList c = -1 := by
  by_cases hm : ∃ o : Nat, Lib.indexByte s.data.toList c = o
  · obtain ⟨o, ho⟩ := hm
    have h1 := (Lib.indexByte_some ho).1
    exact absurd rfl (fstL_none h o (c.toNat : Int) (by unfold numsOf; rw [List.getElem?_map, h1]; rfl))
  · have := Lib.indexByte_ge s.data.toList c
    rcases (by omega : Lib.indexByte s.data.toList c = -1 ∨ 0 ≤ Lib.indexByte s.data.toList c) with h1 | h1
    · exact h1
    · exact absurd ⟨(Lib.indexByte s.data.toList c).toNat, by omega⟩ hm
theorem idx_some (s : ByteArray) (c : UInt8) (i : Nat) (h : fstL (numsOf s) (c.toNat : Int) = some i) : Lib.indexByte s.data.toList c = (i : Int) ∧ i < s.size := by
  obtain ⟨h1, h2⟩ := fstL_some h
  have hlt : i < s.size := by rw [← numsOf_length]; exact (List.getElem?_eq_some_iff.1 h1).1
  refine ⟨?_, hlt⟩
  have get : ∀ k : Nat, s.data.toList[k]? = some c → (numsOf s)[k]? = some (c.toNat : Int) := fun k hk => by unfold numsOf; rw [List.getElem?_map, hk]; rfl
  have back : s.data.toList[i]? = some c := by
    unfold numsOf at h1
    rw [List.getElem?_map, Option.map_eq_some_iff] at h1
    obtain ⟨b, hb, e⟩ := h1
    rw [hb]
    congr 1
    exact UInt8.toNat_inj.1 (by omega)
  have hge := Lib.indexByte_ge s.data.toList c
  have hcase : Lib.indexByte s.data.toList c = -1 ∨ ∃ o : Nat, Lib.indexByte s.data.toList c = o := by
    by_cases h0 : Lib.indexByte s.data.toList c = -1
    · exact .inl h0
    · exact .inr ⟨(Lib.indexByte s.data.toList c).toNat, by omega⟩
  rcases hcase with h3 | ⟨o, ho⟩
  · exact absurd back (Lib.indexByte_none h3 i)
  · obtain ⟨g1, g2⟩ := Lib.indexByte_some ho
    rcases Nat.lt_trichotomy o i with h4 | h4 | h4
    · exact absurd rfl (h2 o _ h4 (get o g1))
    · rw [ho, h4]
    · exact absurd back (g2 i h4)
def cutI (s : ByteArray) (c : Int) : ByteArray × ByteArray × Bool := match fstL (numsOf s) c with
  | none => (s, ⟨#[]⟩, false)
  | some i => (s.extract 0 i, s.extract (i + 1) s.size, true)
def CutPost (s : ByteArray) (c : Int) (w : World) (e : Ending) (w' : World) : Prop := e = .returned (.tuple #[.string (cutI s c).1, .string (cutI s c).2.1, .bool (cutI s c).2.2]) ∧ Below w.heap.size w w'
set_option maxHeartbeats 1000000 in
set_option maxRecDepth 10000 in
theorem cut9_any (s : ByteArray) (c : UInt8) (w : World) (hs : s.size ≤ 9223372036854775807) : Calls Tryz.prog 176 #[.string s, .string ⟨#[c]⟩] w (CutPost s (c.toNat : Int) w) := by
  have HI := Lib.hid (fun W => (Tryz.stringslite_Index_one s c W).mono fun e w' h => (⟨h.1, h.2.symm⟩ : e = _ ∧ W = w'))
  cases hf : fstL (numsOf s) (c.toNat : Int) with
  | none =>
    have HC : Box (cutI s (c.toNat : Int) = (s, ⟨#[]⟩, false)) := ⟨by unfold cutI; rw [hf]⟩
    rw [idx_none s c hf] at HI
    clear hf
    go_enter Tryz.func176, Tryz.ntmps176
    go_wp2_with fail
    refine (HI.out _).mono ?_
    rintro e w1 ⟨rfl, rfl⟩
    go_wp2
    go_ret3
    exact ⟨by rw [HC.out]; rfl, Below.refl _ _⟩
  | some i =>
    obtain ⟨h1, h2⟩ := idx_some s c i hf
    have HC : Box (cutI s (c.toNat : Int) = (s.extract 0 i, s.extract (i + 1) s.size, true)) := ⟨by unfold cutI; rw [hf]⟩
    rw [h1] at HI
    have hz : (⟨#[c]⟩ : ByteArray).size = 1 := rfl
    have hii : (i : Int) ≤ (s.size : Int) := by omega
    have hi1 : (i : Int) + 1 ≤ (s.size : Int) := by omega
    have hf1 : ∀ W, (Instr.slice 9 (.string s) none (some (.int .i64 (i : Int))) none).run Tryz.prog W = .ok (.string (s.extract 0 i)) W := fun W =>
      run_slice_string_h (P := Tryz.prog) (w := W) (t := 9) (s := s) Tryz.underlying9 .i64 (i : Int) (by omega) (by omega)
    have hf2 : ∀ W, (Instr.slice 9 (.string s) (some (.int .i64 ((i : Int) + 1))) none none).run Tryz.prog W = .ok (.string (s.extract (i + 1) s.size)) W := fun W => by
      have h1 := run_slice_string_l (P := Tryz.prog) (w := W) (t := 9) (s := s) Tryz.underlying9 .i64 ((i : Int) + 1) (by omega) (by omega)
      rwa [show ((i : Int) + 1).toNat = i + 1 by omega] at h1
    clear hf h1
    go_enter Tryz.func176, Tryz.ntmps176
    go_wp2_with fail
    refine (HI.out _).mono ?_
    rintro e w1 ⟨rfl, rfl⟩
    go_wp2_with fail
    refine wp_region_typed rfl (by kernel_rfl) (by kernel_rfl) ?_
    repeat (first | refine tw_skip (wd_no rfl rfl rfl) ?_ | refine tw_mv (.inl rfl) rfl (by first | exact wd_none rfl | exact wd_yes rfl rfl rfl) ?_ | refine tw_mv (.inr rfl) rfl (by first | exact wd_none rfl | exact wd_yes rfl rfl rfl) ?_ | refine tw_pickL rfl rfl rfl (by first | exact wd_none rfl | exact wd_yes rfl rfl rfl) ?_ | refine tw_op1 _ rfl rfl (by first | exact wd_none rfl | exact wd_yes rfl rfl rfl) (fun ρ W hW h1 => by simp only [execOp, h1]; go_simp; first | done | rfl) ?_ | refine tw_op2 _ rfl rfl rfl (by first | exact wd_none rfl | exact wd_yes rfl rfl rfl) (fun ρ W hW h1 h2 => by simp only [execOp, h1, h2]; go_simp; first | done | rfl) ?_)
    refine tw_op2 (x := .tmp 13) (y := .tmp 14) (c := .string s) (e := .int .i64 (i : Int)) (.string (s.extract 0 i)) rfl rfl rfl (by first | exact wd_none rfl | exact wd_yes rfl rfl rfl) (fun ρ W hW h1 h2 => by simp only [execOp, h1, h2, Option.map]; go_simp) ?_
    repeat (first | refine tw_skip (wd_no rfl rfl rfl) ?_ | refine tw_mv (.inl rfl) rfl (by first | exact wd_none rfl | exact wd_yes rfl rfl rfl) ?_ | refine tw_mv (.inr rfl) rfl (by first | exact wd_none rfl | exact wd_yes rfl rfl rfl) ?_ | refine tw_pickL rfl rfl rfl (by first | exact wd_none rfl | exact wd_yes rfl rfl rfl) ?_ | refine tw_op1 _ rfl rfl (by first | exact wd_none rfl | exact wd_yes rfl rfl rfl) (fun ρ W hW h1 => by simp only [execOp, h1]; go_simp; first | done | rfl) ?_ | refine tw_op2 _ rfl rfl rfl (by first | exact wd_none rfl | exact wd_yes rfl rfl rfl) (fun ρ W hW h1 h2 => by simp only [execOp, h1, h2]; go_simp; first | done | rfl) ?_)
    refine tw_lens (s := ⟨#[c]⟩) rfl rfl (by first | exact wd_none rfl | exact wd_yes rfl rfl rfl) ?_
    refine tw_op2 (x := .tmp 17) (y := .tmp 19) (c := .int .i64 (i : Int)) (e := .int .i64 1) (.int .i64 ((i : Int) + 1)) rfl rfl rfl (by first | exact wd_none rfl | exact wd_yes rfl rfl rfl) (fun ρ W hW h1 h2 => by simp only [execOp, h1, h2]; go_simp; rw [IntKind.wrap_i64]; omega) ?_
    refine tw_op2 (x := .tmp 16) (y := .tmp 20) (c := .string s) (e := .int .i64 ((i : Int) + 1)) (.string (s.extract (i + 1) s.size)) rfl rfl rfl (by first | exact wd_none rfl | exact wd_yes rfl rfl rfl) (fun ρ W hW h1 h2 => by simp only [execOp, h1, h2, Option.map]; go_simp) ?_
    repeat (first | refine tw_skip (wd_no rfl rfl rfl) ?_ | refine tw_mv (.inl rfl) rfl (by first | exact wd_none rfl | exact wd_yes rfl rfl rfl) ?_ | refine tw_mv (.inr rfl) rfl (by first | exact wd_none rfl | exact wd_yes rfl rfl rfl) ?_ | refine tw_pickL rfl rfl rfl (by first | exact wd_none rfl | exact wd_yes rfl rfl rfl) ?_ | refine tw_op1 _ rfl rfl (by first | exact wd_none rfl | exact wd_yes rfl rfl rfl) (fun ρ W hW h1 => by simp only [execOp, h1]; go_simp; first | done | rfl) ?_ | refine tw_op2 _ rfl rfl rfl (by first | exact wd_none rfl | exact wd_yes rfl rfl rfl) (fun ρ W hW h1 h2 => by simp only [execOp, h1, h2]; go_simp; first | done | rfl) ?_)
    dsimp only [wpT, List.reverse, List.reverseAux, FinT]
    intro W hW _
    simp only [Act.put, List.setIfInBounds_toArray, List.set_cons_zero, List.set_cons_succ]
    have XW := Lib.hid ((Below.refl w.heap.size w).drew.trans (Below.mono hW (Nat.le_refl _)))
    clear hW
    go_wp2
    go_ret3
    exact ⟨by rw [HC.out]; rfl, XW.out⟩
end Go.Proofs.YtnfokaecobddkaaGreatDoor
end
section
namespace Go.Proofs.YtnfokaecobddkaaGreatDoor
def emB : ByteArray := ⟨#[]⟩
def textJ (j : JidL) : ByteArray := (if isEmp j.loc then j.dom else j.loc ++ (⟨#[64]⟩ : ByteArray) ++ j.dom) ++ (if isEmp j.res then emB else (⟨#[47]⟩ : ByteArray) ++ j.res)
def readJ (s : ByteArray) : JidL :=
  if (cutI (lowI (cutI s 47).1) 64).2.2 then ⟨(cutI (lowI (cutI s 47).1) 64).1, (cutI (lowI (cutI s 47).1) 64).2.1, (cutI s 47).2.1⟩ else ⟨emB, lowI (cutI s 47).1, (cutI s 47).2.1⟩
def hasL (s : ByteArray) : Bool := (cutI (lowI (cutI s 47).1) 64).2.2
def hasR (s : ByteArray) : Bool := (cutI s 47).2.2
def parseI (s : ByteArray) : Option JidL :=
  if (hasL s && isEmp (readJ s).loc || hasR s && isEmp (readJ s).res || !jidI (readJ s)) then none else some (readJ s)
theorem data_app (a b : ByteArray) : (a ++ b).data.toList = a.data.toList ++ b.data.toList := by simp
theorem ba_ext {a b : ByteArray} (h : a.data.toList = b.data.toList) : a = b := by
  cases a; cases b
  simp only [Array.toList_inj] at h
  rw [h]
theorem app_size (a b : ByteArray) : (a ++ b).size = a.size + b.size := by simp
end Go.Proofs.YtnfokaecobddkaaGreatDoor
end
section
namespace Go.Proofs.YtnfokaecobddkaaGreatDoor
structure StL where
  kind : Int
  typ : ByteArray
  id : ByteArray
  frm : ByteArray
  to : ByteArray
  load : List (List NodeL)
def isAttr (name : ByteArray) (a : AttrL) : Bool := a.space.toList.isEmpty && (a.name.toList == name.toList)
def valAt (l : List AttrL) (o : Option Nat) : ByteArray := match o with
  | some i => match l[i]? with
    | some a => a.value
    | none => emB
  | none => emB
def findI (n : NodeL) (name : ByteArray) : ByteArray := valAt n.attrs (fstP (isAttr name) n.attrs)
def blankL : List UInt8 := [32, 9, 10, 13]
def blankI (s : ByteArray) : Bool := setAll blankL s
def nodeAt (v : List NodeL) (k : Nat) : NodeL := v.getD k default
def elemsK (v : List NodeL) (l : List Nat) : List (List NodeL) := (l.filter fun k => decide ((nodeAt v k).kind = 1)).map (partI v)
def blanksK (v : List NodeL) (l : List Nat) : Bool := l.all fun k => decide ((nodeAt v k).kind = 1) || blankI (nodeAt v k).text
def elemsI (v : List NodeL) : List (List NodeL) := elemsK v (kidsI v 0)
def blanksI (v : List NodeL) : Bool := blanksK v (kidsI v 0)
theorem elemsK_succ (v : List NodeL) (l : List Nat) (k : Nat) : elemsK v (l ++ [k]) = if (nodeAt v k).kind = 1 then elemsK v l ++ [partI v k] else elemsK v l := by
  unfold elemsK
  rw [List.filter_append, List.map_append]
  by_cases h : (nodeAt v k).kind = 1 <;> simp [h]
theorem blanksK_succ (v : List NodeL) (l : List Nat) (k : Nat) : blanksK v (l ++ [k]) = (blanksK v l && (decide ((nodeAt v k).kind = 1) || blankI (nodeAt v k).text)) := by
  unfold blanksK
  rw [List.all_append]
  simp
def kindNames : List ByteArray := [(⟨#[]⟩ : ByteArray), (⟨#[109, 101, 115, 115, 97, 103, 101]⟩ : ByteArray), (⟨#[112, 114, 101, 115, 101, 110, 99, 101]⟩ : ByteArray), (⟨#[105, 113]⟩ : ByteArray)]
def msgTypes : List ByteArray := [(⟨#[]⟩ : ByteArray), (⟨#[99, 104, 97, 116]⟩ : ByteArray), (⟨#[101, 114, 114, 111, 114]⟩ : ByteArray), (⟨#[103, 114, 111, 117, 112, 99, 104, 97, 116]⟩ : ByteArray), (⟨#[104, 101, 97, 100, 108, 105, 110, 101]⟩ : ByteArray), (⟨#[110, 111, 114, 109, 97, 108]⟩ : ByteArray)]
def preTypes : List ByteArray := [(⟨#[]⟩ : ByteArray), (⟨#[117, 110, 97, 118, 97, 105, 108, 97, 98, 108, 101]⟩ : ByteArray), (⟨#[115, 117, 98, 115, 99, 114, 105, 98, 101]⟩ : ByteArray), (⟨#[115, 117, 98, 115, 99, 114, 105, 98, 101, 100]⟩ : ByteArray), (⟨#[117, 110, 115, 117, 98, 115, 99, 114, 105, 98, 101]⟩ : ByteArray), (⟨#[117, 110, 115, 117, 98, 115, 99, 114, 105, 98, 101, 100]⟩ : ByteArray), (⟨#[112, 114, 111, 98, 101]⟩ : ByteArray), (⟨#[101, 114, 114, 111, 114]⟩ : ByteArray)]
def iqTypes : List ByteArray := [(⟨#[103, 101, 116]⟩ : ByteArray), (⟨#[115, 101, 116]⟩ : ByteArray), (⟨#[114, 101, 115, 117, 108, 116]⟩ : ByteArray), (⟨#[101, 114, 114, 111, 114]⟩ : ByteArray)]
def typesOf (k : Int) : List ByteArray := if k = 1 then msgTypes else if k = 2 then preTypes else if k = 3 then iqTypes else []
def hasS (l : List ByteArray) (s : ByteArray) : Bool := l.any fun x => x.toList == s.toList
def typedI (k : Int) (s : ByteArray) : Bool := hasS (typesOf k) s
end Go.Proofs.YtnfokaecobddkaaGreatDoor
end
section
namespace Go.Proofs.YtnfokaecobddkaaGreatDoor
open Go.RowKit Go.ChangeShapes Go.WideShapes Go.Deep
def AtAt (w : World) (b o : Nat) (a : AttrL) : Prop := w.cell? ⟨b, o, none⟩ = some (.string a.space) ∧ w.cell? ⟨b, o + 1, none⟩ = some (.string a.name) ∧ w.cell? ⟨b, o + 2, none⟩ = some (.string a.value)
def RdA (w : World) (B : Nat) (A : Option Addr) (l : List AttrL) : Prop := 0 < l.length → ∃ b off, A = some ⟨b, off, none⟩ ∧ b < B ∧ ∀ i a, l[i]? = some a → AtAt w b (off + i * 3) a
def NdAt (w : World) (B b o : Nat) (n : NodeL) : Prop :=
  w.cell? ⟨b, o, none⟩ = some (.int .u8 n.kind) ∧ w.cell? ⟨b, o + 1, none⟩ = some (.string n.space) ∧ w.cell? ⟨b, o + 2, none⟩ = some (.string n.name) ∧
  (∃ A c, w.cell? ⟨b, o + 3, none⟩ = some (.slice A n.attrs.length c) ∧ n.attrs.length ≤ c ∧ RdA w B A n.attrs) ∧ w.cell? ⟨b, o + 4, none⟩ = some (.string n.text) ∧ w.cell? ⟨b, o + 5, none⟩ = some (.int .i64 n.many)
def RdV (w : World) (B : Nat) (A : Option Addr) (v : List NodeL) : Prop := 0 < v.length → ∃ b off, A = some ⟨b, off, none⟩ ∧ b < B ∧ ∀ i n, v[i]? = some n → NdAt w B b (off + i * 6) n
section
variable {w w' : World} {B B' : Nat} {A : Option Addr}
theorem AtAt.keep {b o : Nat} {a : AttrL} (h : AtAt w b o a) (hb : b < B) (hk : ∀ p : Addr, p.block < B → w'.cell? p = w.cell? p) : AtAt w' b o a :=
  ⟨(hk _ hb).trans h.1, (hk _ hb).trans h.2.1, (hk _ hb).trans h.2.2⟩
theorem RdA.keep {l : List AttrL} (h : RdA w B A l) (hk : ∀ p : Addr, p.block < B → w'.cell? p = w.cell? p) : RdA w' B A l := fun h0 => by
  obtain ⟨b, off, e, hb, hc⟩ := h h0
  exact ⟨b, off, e, hb, fun i a hi => (hc i a hi).keep hb hk⟩
theorem RdA.more {l : List AttrL} (h : RdA w B A l) (hB : B ≤ B') : RdA w B' A l := fun h0 => by
  obtain ⟨b, off, e, hb, hc⟩ := h h0
  exact ⟨b, off, e, by omega, hc⟩
theorem RdA.below {C : Nat} {l : List AttrL} (h : RdA w B A l) (hb : Below C w w') (hC : B ≤ C) : RdA w' B A l := h.keep fun _ hp => hb.cell (by omega)
theorem NdAt.keep {b o : Nat} {n : NodeL} (h : NdAt w B b o n) (hb : b < B) (hk : ∀ p : Addr, p.block < B → w'.cell? p = w.cell? p) : NdAt w' B b o n := by
  obtain ⟨h0, h1, h2, ⟨A, c, h3, hl, hA⟩, h4, h5⟩ := h
  exact ⟨(hk _ hb).trans h0, (hk _ hb).trans h1, (hk _ hb).trans h2, ⟨A, c, (hk _ hb).trans h3, hl, hA.keep hk⟩, (hk _ hb).trans h4, (hk _ hb).trans h5⟩
theorem NdAt.more {b o : Nat} {n : NodeL} (h : NdAt w B b o n) (hB : B ≤ B') : NdAt w B' b o n := by
  obtain ⟨h0, h1, h2, ⟨A, c, h3, hl, hA⟩, h4, h5⟩ := h
  exact ⟨h0, h1, h2, ⟨A, c, h3, hl, hA.more hB⟩, h4, h5⟩
theorem RdV.keep {v : List NodeL} (h : RdV w B A v) (hk : ∀ p : Addr, p.block < B → w'.cell? p = w.cell? p) : RdV w' B A v := fun h0 => by
  obtain ⟨b, off, e, hb, hc⟩ := h h0
  exact ⟨b, off, e, hb, fun i n hi => (hc i n hi).keep hb hk⟩
theorem RdV.more {v : List NodeL} (h : RdV w B A v) (hB : B ≤ B') : RdV w B' A v := fun h0 => by
  obtain ⟨b, off, e, hb, hc⟩ := h h0
  exact ⟨b, off, e, by omega, fun i n hi => (hc i n hi).more hB⟩
theorem RdV.below {C : Nat} {v : List NodeL} (h : RdV w B A v) (hb : Below C w w') (hC : B ≤ C) : RdV w' B A v := h.keep fun _ hp => hb.cell (by omega)
end
def SzA (M : Nat) (a : AttrL) : Prop := a.space.size ≤ M ∧ a.name.size ≤ M ∧ a.value.size ≤ M
def SzN (M : Nat) (n : NodeL) : Prop := (0 ≤ n.kind ∧ n.kind < 256) ∧ n.space.size ≤ M ∧ n.name.size ≤ M ∧ (n.attrs.length ≤ M ∧ ∀ a ∈ n.attrs, SzA M a) ∧ n.text.size ≤ M ∧ (-9223372036854775808 ≤ n.many ∧ n.many ≤ 9223372036854775807)
def SzV (M : Nat) (v : List NodeL) : Prop := v.length ≤ M ∧ ∀ n ∈ v, SzN M n
theorem list_of {α : Type} {P : Nat → α → Prop} : ∀ n : Nat, (∀ i, i < n → ∃ x, P i x) → ∃ l : List α, l.length = n ∧ ∀ i x, l[i]? = some x → P i x
  | 0, _ => ⟨[], rfl, by simp⟩
  | n + 1, h => by
    obtain ⟨l, hl, hp⟩ := list_of n fun i hi => h i (by omega)
    obtain ⟨x, hx⟩ := h n (by omega)
    refine ⟨l ++ [x], by simp [hl], fun i y hi => ?_⟩
    rcases Nat.lt_or_ge i l.length with h1 | h1
    · rw [List.getElem?_append_left h1] at hi
      exact hp i y hi
    · rw [List.getElem?_append_right h1] at hi
      rcases Nat.eq_zero_or_pos (i - l.length) with h0 | h0
      · rw [h0] at hi
        simp only [List.getElem?_cons_zero, Option.some.injEq] at hi
        subst hi
        obtain rfl : i = n := by omega
        exact hx
      · rw [List.getElem?_eq_none (by simp; omega)] at hi
        cases hi
theorem addr_of {W : World} {a : Addr} {v : Value} (h : W.cell? (a.add 0) = some v) : ∃ b off, a = ⟨b, off, none⟩ ∧ b < W.heap.size := by
  have hb := World.block_lt_of_cell? W _ h
  rw [block_of_add] at hb
  obtain ⟨b, off, spot⟩ := a
  have hspot : spot = none := by
    simpa [Addr.add] using World.cell?_spot h
  subst hspot
  exact ⟨b, off, rfl, hb⟩
section
variable {H : Type} {enc : TypeId × Value → H} {W : World} {base : Nat} {spare : Nat → Bool} {held : Bool}
theorem open_fields {t e : TypeId} {fs : Array Field} {fuel : Nat} {cs : List Value} {x : DataW H × List MemPlace} (ht : Tryz.prog.underlying t = some (.slice e)) (he : Tryz.prog.underlying e = some (.struct fs))
    (hone : oneCellFields Tryz.prog fs = true) (hC : Tryz.prog.cellsOf e = fs.size) (h : DataW.trod enc Tryz.prog W base spare held fuel t cs = some x) :
    cs = [.slice none 0 0] ∨
    ∃ (a : Addr) (len cap : Nat), cs = [.slice (some a) len cap] ∧ len ≤ cap ∧ cap ≤ maxLen ∧
      ∀ i, i < len → ∃ n : Nat, ∀ (j : Nat) (f : Field), fs[j]? = some f → ∃ (v : Value) (y : DataW H × List MemPlace), W.cell? (a.add (i * fs.size + j)) = some v ∧ DataW.trod enc Tryz.prog W base spare held n f.type [v] = some y := by
  rcases open_slice ht h with h0 | ⟨a, len, cap, m, n, D, Pl, hcs, hb, hl, hm, hmm, hx, hi⟩
  · exact .inl h0.1
  · refine .inr ⟨a, len, cap, hcs, hl, hm, fun i him => ?_⟩
    have him' : i < m := by rw [hmm]; split <;> omega
    obtain ⟨cs', hc, ht'⟩ := hi i him'
    rw [hC] at hc
    obtain ⟨ys, n', hn', hy, hlen, hyl, hf⟩ := DataW.trod_struct he ht'
    obtain ⟨_, hcl, hat⟩ := World.cells?_some hc
    refine ⟨n', fun j f hj => ?_⟩
    obtain ⟨ho, hk⟩ := hone_of hone j f hj
    have hjl : j < fs.size := (Array.getElem?_eq_some_iff.1 hj).1
    have hcell := hat j hjl
    have hv : cs'[j]? = some (cs'[j]'(by omega)) := List.getElem?_eq_getElem (by omega)
    have h1 := hf j f hj
    rw [ho, hk] at h1
    have hone' : (cs'.drop j).take 1 = [cs'[j]'(by omega)] := by
      rw [List.drop_eq_getElem_cons (by omega)]
      rfl
    rw [hone'] at h1
    have hys : ys[j]? = some (ys[j]'(by omega)) := List.getElem?_eq_getElem (by omega)
    refine ⟨_, _, ?_, h1.trans hys⟩
    rw [← Go.Deep.add_add, hcell, hv]
theorem open_attrs {fuel : Nat} {cs : List Value} {x : DataW H × List MemPlace} (h : DataW.trod enc Tryz.prog W base spare held fuel 67 cs = some x) :
    ∃ (A : Option Addr) (l : List AttrL) (c : Nat), cs = [.slice A l.length c] ∧ l.length ≤ c ∧ RdA W W.heap.size A l ∧ l.length ≤ maxLen ∧ ∀ a ∈ l, SzA maxLen a := by
  rcases open_fields Tryz.underlying67 Tryz.underlying80 (by kernel_rfl) (by kernel_rfl) h with rfl | ⟨a, len, cap, rfl, hl, hm, hi⟩
  · exact ⟨none, [], 0, rfl, Nat.le_refl _, fun h => absurd h (by simp), by simp, by simp⟩
  · obtain ⟨l, rfl, hp⟩ := list_of (P := fun i (x : AttrL) => (W.cell? (a.add (i * 3)) = some (.string x.space) ∧ W.cell? (a.add (i * 3 + 1)) = some (.string x.name) ∧ W.cell? (a.add (i * 3 + 2)) = some (.string x.value)) ∧ SzA maxLen x) len fun i hil => by
      obtain ⟨n, hf⟩ := hi i hil
      obtain ⟨v0, y0, c0, t0⟩ := hf 0 _ rfl
      obtain ⟨v1, y1, c1, t1⟩ := hf 1 _ rfl
      obtain ⟨v2, y2, c2, t2⟩ := hf 2 _ rfl
      obtain ⟨s0, e0, _, z0⟩ := DataW.trod_string Tryz.underlying9 t0
      obtain ⟨s1, e1, _, z1⟩ := DataW.trod_string Tryz.underlying9 t1
      obtain ⟨s2, e2, _, z2⟩ := DataW.trod_string Tryz.underlying9 t2
      simp only [List.cons.injEq, and_true] at e0 e1 e2
      subst e0 e1 e2
      exact ⟨⟨s0, s1, s2⟩, ⟨c0, c1, c2⟩, z0, z1, z2⟩
    refine ⟨some a, l, cap, rfl, hl, fun h0 => ?_, by omega, fun x hx => ?_⟩
    · obtain ⟨b, off, rfl, hb⟩ := addr_of (by simpa using (hp 0 l[0] (List.getElem?_eq_getElem h0)).1.1)
      refine ⟨b, off, rfl, hb, fun i x hx => ?_⟩
      have := (hp i x hx).1
      simp only [AtAt, NdAt, Nat.add_assoc]
      simpa only [add_mk, Nat.add_assoc] using this
    · obtain ⟨i, hi, rfl⟩ := List.mem_iff_getElem.1 hx
      exact (hp i _ (List.getElem?_eq_getElem hi)).2
theorem open_nodes {fuel : Nat} {cs : List Value} {x : DataW H × List MemPlace} (h : DataW.trod enc Tryz.prog W base spare held fuel 30 cs = some x) :
    ∃ (A : Option Addr) (v : List NodeL) (c : Nat), cs = [.slice A v.length c] ∧ v.length ≤ c ∧ RdV W W.heap.size A v ∧ SzV maxLen v := by
  rcases open_fields Tryz.underlying30 Tryz.underlying69 (by kernel_rfl) (by kernel_rfl) h with rfl | ⟨a, len, cap, rfl, hl, hm, hi⟩
  · exact ⟨none, [], 0, rfl, Nat.le_refl _, fun h => absurd h (by simp), by simp, by simp⟩
  · obtain ⟨l, rfl, hp⟩ := list_of (P := fun i (x : NodeL) => (W.cell? (a.add (i * 6)) = some (.int .u8 x.kind) ∧ W.cell? (a.add (i * 6 + 1)) = some (.string x.space) ∧ W.cell? (a.add (i * 6 + 2)) = some (.string x.name) ∧
        (∃ A c, W.cell? (a.add (i * 6 + 3)) = some (.slice A x.attrs.length c) ∧ x.attrs.length ≤ c ∧ RdA W W.heap.size A x.attrs) ∧ W.cell? (a.add (i * 6 + 4)) = some (.string x.text) ∧ W.cell? (a.add (i * 6 + 5)) = some (.int .i64 x.many)) ∧ SzN maxLen x) len fun i hil => by
      obtain ⟨n, hf⟩ := hi i hil
      obtain ⟨v0, y0, c0, t0⟩ := hf 0 _ rfl
      obtain ⟨v1, y1, c1, t1⟩ := hf 1 _ rfl
      obtain ⟨v2, y2, c2, t2⟩ := hf 2 _ rfl
      obtain ⟨v3, y3, c3, t3⟩ := hf 3 _ rfl
      obtain ⟨v4, y4, c4, t4⟩ := hf 4 _ rfl
      obtain ⟨v5, y5, c5, t5⟩ := hf 5 _ rfl
      obtain ⟨s0, e0, _, z0⟩ := DataW.trod_int Tryz.underlying5 t0
      obtain ⟨s1, e1, _, z1⟩ := DataW.trod_string Tryz.underlying9 t1
      obtain ⟨s2, e2, _, z2⟩ := DataW.trod_string Tryz.underlying9 t2
      obtain ⟨A3, l3, k3, e3, hl3, hr3, hm3, z3⟩ := open_attrs t3
      obtain ⟨s4, e4, _, z4⟩ := DataW.trod_string Tryz.underlying9 t4
      obtain ⟨s5, e5, _, z5⟩ := DataW.trod_int Tryz.underlying3 t5
      simp only [List.cons.injEq, and_true] at e0 e1 e2 e3 e4 e5
      subst e0 e1 e2 e3 e4 e5
      exact ⟨⟨s0, s1, s2, l3, s4, s5⟩, ⟨c0, c1, c2, ⟨A3, k3, c3, hl3, hr3⟩, c4, c5⟩, wf_u8 z0, z1, z2, ⟨hm3, z3⟩, z4, wf_i64 z5⟩
    refine ⟨some a, l, cap, rfl, hl, fun h0 => ?_, by omega, fun x hx => ?_⟩
    · obtain ⟨b, off, rfl, hb⟩ := addr_of (by simpa using (hp 0 l[0] (List.getElem?_eq_getElem h0)).1.1)
      refine ⟨b, off, rfl, hb, fun i x hx => ?_⟩
      have := (hp i x hx).1
      simp only [AtAt, NdAt, Nat.add_assoc]
      simpa only [add_mk, Nat.add_assoc] using this
    · obtain ⟨i, hi, rfl⟩ := List.mem_iff_getElem.1 hx
      exact (hp i _ (List.getElem?_eq_getElem hi)).2
end
theorem ext_step {B : Nat} {a b c d : World} (h : Below B a b) (k : Below b.heap.size b c) (m : Below c.heap.size c d) (hB : B ≤ b.heap.size) : Below B a d :=
  (h.trans (k.mono hB)).trans (m.mono (Nat.le_trans hB k.size))
theorem e0A {b : World} : Below b.heap.size b b := Below.refl _ _
theorem e1A {b : World} {x : Obj} : Below b.heap.size b (b.alloc x) := (Below.refl _ _).alloc (Nat.le_refl _) _
theorem e2A {b : World} {x y : Obj} : Below b.heap.size b ((b.alloc x).alloc y) := ((Below.refl _ _).alloc (Nat.le_refl _) _).alloc (by simp) _
theorem e3A {b : World} {x y z : Obj} : Below b.heap.size b (((b.alloc x).alloc y).alloc z) := (((Below.refl _ _).alloc (Nat.le_refl _) _).alloc (by simp) _).alloc (by simp; omega) _
theorem e4A {b : World} : Below b.heap.size b b.drew := (Below.refl _ _).drew
theorem e5A {b : World} {x : Obj} : Below b.heap.size b (b.alloc x).drew := ((Below.refl _ _).alloc (Nat.le_refl _) _).drew
end Go.Proofs.YtnfokaecobddkaaGreatDoor
end
section
namespace Go.Proofs.YtnfokaecobddkaaGreatDoor
open Go.RowKit
set_option linter.unusedSimpArgs false
set_option linter.unusedVariables false
def encA (a : AttrL) : Value := .agg #[.string a.space, .string a.name, .string a.value]
def encN (n : NodeL) (A : Option Addr) (c : Nat) : Value := .agg #[.int .u8 n.kind, .string n.space, .string n.name, .slice A n.attrs.length c, .string n.text, .int .i64 n.many]
def RdW (w : World) (B : Nat) (A : Option Addr) (l : List (List NodeL)) : Prop := 0 < l.length → ∃ b off, A = some ⟨b, off, none⟩ ∧ b < B ∧ ∀ i v, l[i]? = some v → ∃ A' c', w.cell? ⟨b, off + i, none⟩ = some (.slice A' v.length c') ∧ v.length ≤ c' ∧ RdV w B A' v
theorem placeI_ge (o : Option Nat) : decide (0 ≤ placeI o) = o.isSome := by
  cases o with
  | none => rfl
  | some i => simp [placeI]
set_option maxHeartbeats 1000000 in
theorem idxA_any (g : Nat) (lb : Array Value) (A : Option Addr) (c : Nat) (l : List (AttrL)) (p : AttrL → Bool) (w : World) (hr : RdA w w.heap.size A l) (hn : l.length ≤ 1000000000)
    (eg : ∀ args w, (callFunc g args).run Tryz.prog w = .ok (.enter g args) w)
    (hp : ∀ (W : World) (i : Nat) (x : AttrL), Below w.heap.size w W → l[i]? = some x → Calls Tryz.prog g (#[encA x] ++ lb) W fun e w' => e = .returned (.bool (p x)) ∧ Below w.heap.size w w') :
    Calls Tryz.prog 84 #[.slice A l.length c, .func (.func g) #[] lb] w fun e w' => e = .returned (.int .i64 (placeI (fstP p l))) ∧ Below w.heap.size w w' := by
  have HP := Lib.hid hp
  have HR := Lib.hid hr
  clear hp hr
  go_enter Tryz.func84, Tryz.ntmps84
  go_wp2
  go_loopw [5, 8] (fun _ s8 wr => ∃ k : Nat, k ≤ l.length ∧ s8 = .int .i64 k ∧ Hid (Below w.heap.size w wr) ∧ Hid (∀ (j : Nat) (y : AttrL), j < k → l[j]? = some y → p y = false)) (fun _ s8 _ => l.length - (intOf s8).toNat)
  case atStart => exact ⟨0, Nat.zero_le _, rfl, Lib.hid (Below.refl _ _), Lib.hid (fun j y hj => absurd hj (by omega))⟩
  case round =>
    obtain ⟨k, hk, rfl, HB, HN⟩ := hrel
    by_cases hlt : k < l.length
    · obtain ⟨x, hx⟩ : ∃ x, l[k]? = some x := ⟨_, List.getElem?_eq_getElem hlt⟩
      have HX := Lib.hid hx
      obtain ⟨b, off, rfl, hb, hc⟩ := HR.out (by omega)
      obtain ⟨c0, c1, c2⟩ := (hc k x hx).keep (w' := wr) hb (fun q hq => HB.out.cell hq)
      have hcall := HP.out wr k x HB.out hx
      have eg' := eg (#[encA x] ++ lb)
      clear hx hc hb
      cases hq : p x with
      | true =>
        have HF : Hid (fstP p l = some k) := fstP_is HX.out hq HN.out
        rw [hq] at hcall
        generalize l.length = n at *
        go_wp2_with fail
        refine hcall.mono ?_
        rintro e w1 ⟨rfl, hb1⟩
        have X1 := Lib.hid hb1
        clear hb1
        go_wp2
        go_ret
        exact ⟨ret_int (by rw [HF.out]; rfl), X1.out⟩
      | false =>
        have HF : Hid (∀ (j : Nat) (y : AttrL), j < k + 1 → l[j]? = some y → p y = false) := Lib.hid (fun j y hj hy => by
          rcases Nat.lt_or_ge j k with h1 | h1
          · exact HN.out j y h1 hy
          · obtain rfl : j = k := by omega
            rw [HX.out] at hy
            simp only [Option.some.injEq] at hy
            rw [← hy]; exact hq)
        rw [hq] at hcall
        generalize l.length = n at *
        go_wp2_with fail
        refine hcall.mono ?_
        rintro e w1 ⟨rfl, hb1⟩
        have X1 := Lib.hid hb1
        clear hb1
        go_wp2
        go_roundw
        case rel => exact ⟨k + 1, by omega, by go_num, X1, HF⟩
        case measure => simp [intOf]; omega
    · have HF : Hid (fstP p l = none) := fstP_not (fun j y hy => HN.out j y (by have := (List.getElem?_eq_some_iff.1 hy).1; omega) hy)
      generalize l.length = n at *
      go_wp2
      go_ret
      exact ⟨ret_int (by rw [HF.out]; rfl), HB.out⟩
theorem hasA_any (g : Nat) (lb : Array Value) (A : Option Addr) (c : Nat) (l : List (AttrL)) (p : AttrL → Bool) (w : World) (hr : RdA w w.heap.size A l) (hn : l.length ≤ 1000000000)
    (eg : ∀ args w, (callFunc g args).run Tryz.prog w = .ok (.enter g args) w)
    (hp : ∀ (W : World) (i : Nat) (x : AttrL), Below w.heap.size w W → l[i]? = some x → Calls Tryz.prog g (#[encA x] ++ lb) W fun e w' => e = .returned (.bool (p x)) ∧ Below w.heap.size w w') :
    Calls Tryz.prog 76 #[.slice A l.length c, .func (.func g) #[] lb] w fun e w' => e = .returned (.bool (l.any p)) ∧ Below w.heap.size w w' := by
  have H := Lib.hid (idxA_any g lb A c l p w hr hn eg hp)
  have HX : Box (l.any p = decide (0 ≤ placeI (fstP p l))) := ⟨by rw [placeI_ge, fstP_any]⟩
  generalize placeI (fstP p l) = r at *
  generalize l.any p = b at *
  generalize l.length = n at *
  clear hp hr
  go_enter Tryz.func76, Tryz.ntmps76
  go_wp2_with fail
  refine H.out.mono ?_
  rintro e w1 ⟨rfl, hb1⟩
  go_wp2
  go_ret
  exact ⟨ret_bool HX.out.symm, hb1⟩
set_option maxHeartbeats 1000000 in
theorem idxN_any (g : Nat) (lb : Array Value) (A : Option Addr) (c : Nat) (l : List (NodeL)) (p : NodeL → Bool) (w : World) (hr : RdV w w.heap.size A l) (hn : l.length ≤ 1000000000)
    (eg : ∀ args w, (callFunc g args).run Tryz.prog w = .ok (.enter g args) w)
    (hp : ∀ (W : World) (i : Nat) (x : NodeL) (A' : Option Addr) (c' : Nat), Below w.heap.size w W → l[i]? = some x → x.attrs.length ≤ c' → RdA w w.heap.size A' x.attrs → Calls Tryz.prog g (#[encN x A' c'] ++ lb) W fun e w' => e = .returned (.bool (p x)) ∧ Below w.heap.size w w') :
    Calls Tryz.prog 125 #[.slice A l.length c, .func (.func g) #[] lb] w fun e w' => e = .returned (.int .i64 (placeI (fstP p l))) ∧ Below w.heap.size w w' := by
  have HP := Lib.hid hp
  have HR := Lib.hid hr
  clear hp hr
  go_enter Tryz.func125, Tryz.ntmps125
  go_wp2
  go_loopw [5, 8] (fun _ s8 wr => ∃ k : Nat, k ≤ l.length ∧ s8 = .int .i64 k ∧ Hid (Below w.heap.size w wr) ∧ Hid (∀ (j : Nat) (y : NodeL), j < k → l[j]? = some y → p y = false)) (fun _ s8 _ => l.length - (intOf s8).toNat)
  case atStart => exact ⟨0, Nat.zero_le _, rfl, Lib.hid (Below.refl _ _), Lib.hid (fun j y hj => absurd hj (by omega))⟩
  case round =>
    obtain ⟨k, hk, rfl, HB, HN⟩ := hrel
    by_cases hlt : k < l.length
    · obtain ⟨x, hx⟩ : ∃ x, l[k]? = some x := ⟨_, List.getElem?_eq_getElem hlt⟩
      have HX := Lib.hid hx
      obtain ⟨b, off, rfl, hb, hc⟩ := HR.out (by omega)
      obtain ⟨c0, c1, c2, ⟨A', c', c3, hl', hA'⟩, c4, c5⟩ := (hc k x hx).keep (w' := wr) hb (fun q hq => HB.out.cell hq)
      obtain ⟨_, _, _, ⟨A2, c2', d3, hl2, hA2⟩, _, _⟩ := hc k x hx
      have e3 := (HB.out.cell (p := ⟨b, off + k * 6 + 3, none⟩) hb).trans d3
      rw [c3] at e3
      simp only [Option.some.injEq, Value.slice.injEq] at e3
      obtain ⟨rfl, -, rfl⟩ := e3
      have HL2 := Lib.hid hl2
      have HA2 := Lib.hid hA2
      clear hl' hA' hl2 hA2 d3
      have hcall := HP.out wr k x A' c' HB.out hx HL2.out HA2.out
      have eg' := eg (#[encN x A' c'] ++ lb)
      clear hx hc hb
      cases hq : p x with
      | true =>
        have HF : Hid (fstP p l = some k) := fstP_is HX.out hq HN.out
        rw [hq] at hcall
        generalize l.length = n at *
        go_wp2_with fail
        refine hcall.mono ?_
        rintro e w1 ⟨rfl, hb1⟩
        have X1 := Lib.hid hb1
        clear hb1
        go_wp2
        go_ret
        exact ⟨ret_int (by rw [HF.out]; rfl), X1.out⟩
      | false =>
        have HF : Hid (∀ (j : Nat) (y : NodeL), j < k + 1 → l[j]? = some y → p y = false) := Lib.hid (fun j y hj hy => by
          rcases Nat.lt_or_ge j k with h1 | h1
          · exact HN.out j y h1 hy
          · obtain rfl : j = k := by omega
            rw [HX.out] at hy
            simp only [Option.some.injEq] at hy
            rw [← hy]; exact hq)
        rw [hq] at hcall
        generalize l.length = n at *
        go_wp2_with fail
        refine hcall.mono ?_
        rintro e w1 ⟨rfl, hb1⟩
        have X1 := Lib.hid hb1
        clear hb1
        go_wp2
        go_roundw
        case rel => exact ⟨k + 1, by omega, by go_num, X1, HF⟩
        case measure => simp [intOf]; omega
    · have HF : Hid (fstP p l = none) := fstP_not (fun j y hy => HN.out j y (by have := (List.getElem?_eq_some_iff.1 hy).1; omega) hy)
      generalize l.length = n at *
      go_wp2
      go_ret
      exact ⟨ret_int (by rw [HF.out]; rfl), HB.out⟩
theorem hasN_any (g : Nat) (lb : Array Value) (A : Option Addr) (c : Nat) (l : List (NodeL)) (p : NodeL → Bool) (w : World) (hr : RdV w w.heap.size A l) (hn : l.length ≤ 1000000000)
    (eg : ∀ args w, (callFunc g args).run Tryz.prog w = .ok (.enter g args) w)
    (hp : ∀ (W : World) (i : Nat) (x : NodeL) (A' : Option Addr) (c' : Nat), Below w.heap.size w W → l[i]? = some x → x.attrs.length ≤ c' → RdA w w.heap.size A' x.attrs → Calls Tryz.prog g (#[encN x A' c'] ++ lb) W fun e w' => e = .returned (.bool (p x)) ∧ Below w.heap.size w w') :
    Calls Tryz.prog 77 #[.slice A l.length c, .func (.func g) #[] lb] w fun e w' => e = .returned (.bool (l.any p)) ∧ Below w.heap.size w w' := by
  have H := Lib.hid (idxN_any g lb A c l p w hr hn eg hp)
  have HX : Box (l.any p = decide (0 ≤ placeI (fstP p l))) := ⟨by rw [placeI_ge, fstP_any]⟩
  generalize placeI (fstP p l) = r at *
  generalize l.any p = b at *
  generalize l.length = n at *
  clear hp hr
  go_enter Tryz.func77, Tryz.ntmps77
  go_wp2_with fail
  refine H.out.mono ?_
  rintro e w1 ⟨rfl, hb1⟩
  go_wp2
  go_ret
  exact ⟨ret_bool HX.out.symm, hb1⟩
set_option maxHeartbeats 1000000 in
theorem idxT_any (g : Nat) (lb : Array Value) (A : Option Addr) (c : Nat) (l : List (List NodeL)) (p : List NodeL → Bool) (w : World) (hr : RdW w w.heap.size A l) (hn : l.length ≤ 1000000000)
    (eg : ∀ args w, (callFunc g args).run Tryz.prog w = .ok (.enter g args) w)
    (hp : ∀ (W : World) (i : Nat) (x : List NodeL) (A' : Option Addr) (c' : Nat), Below w.heap.size w W → l[i]? = some x → x.length ≤ c' → RdV w w.heap.size A' x → Calls Tryz.prog g (#[.slice A' x.length c'] ++ lb) W fun e w' => e = .returned (.bool (p x)) ∧ Below w.heap.size w w') :
    Calls Tryz.prog 80 #[.slice A l.length c, .func (.func g) #[] lb] w fun e w' => e = .returned (.int .i64 (placeI (fstP p l))) ∧ Below w.heap.size w w' := by
  have HP := Lib.hid hp
  have HR := Lib.hid hr
  clear hp hr
  go_enter Tryz.func80, Tryz.ntmps80
  go_wp2
  go_loopw [5, 8] (fun _ s8 wr => ∃ k : Nat, k ≤ l.length ∧ s8 = .int .i64 k ∧ Hid (Below w.heap.size w wr) ∧ Hid (∀ (j : Nat) (y : List NodeL), j < k → l[j]? = some y → p y = false)) (fun _ s8 _ => l.length - (intOf s8).toNat)
  case atStart => exact ⟨0, Nat.zero_le _, rfl, Lib.hid (Below.refl _ _), Lib.hid (fun j y hj => absurd hj (by omega))⟩
  case round =>
    obtain ⟨k, hk, rfl, HB, HN⟩ := hrel
    by_cases hlt : k < l.length
    · obtain ⟨x, hx⟩ : ∃ x, l[k]? = some x := ⟨_, List.getElem?_eq_getElem hlt⟩
      have HX := Lib.hid hx
      obtain ⟨b, off, rfl, hb, hc⟩ := HR.out (by omega)
      obtain ⟨A', c', d0, hl2, hA2⟩ := hc k x hx
      have c0 := (HB.out.cell (p := ⟨b, off + k, none⟩) hb).trans d0
      have HL2 := Lib.hid hl2
      have HA2 := Lib.hid hA2
      clear hl2 hA2 d0
      have hcall := HP.out wr k x A' c' HB.out hx HL2.out HA2.out
      have eg' := eg (#[.slice A' x.length c'] ++ lb)
      clear hx hc hb
      cases hq : p x with
      | true =>
        have HF : Hid (fstP p l = some k) := fstP_is HX.out hq HN.out
        rw [hq] at hcall
        generalize l.length = n at *
        go_wp2_with fail
        refine hcall.mono ?_
        rintro e w1 ⟨rfl, hb1⟩
        have X1 := Lib.hid hb1
        clear hb1
        go_wp2
        go_ret
        exact ⟨ret_int (by rw [HF.out]; rfl), X1.out⟩
      | false =>
        have HF : Hid (∀ (j : Nat) (y : List NodeL), j < k + 1 → l[j]? = some y → p y = false) := Lib.hid (fun j y hj hy => by
          rcases Nat.lt_or_ge j k with h1 | h1
          · exact HN.out j y h1 hy
          · obtain rfl : j = k := by omega
            rw [HX.out] at hy
            simp only [Option.some.injEq] at hy
            rw [← hy]; exact hq)
        rw [hq] at hcall
        generalize l.length = n at *
        go_wp2_with fail
        refine hcall.mono ?_
        rintro e w1 ⟨rfl, hb1⟩
        have X1 := Lib.hid hb1
        clear hb1
        go_wp2
        go_roundw
        case rel => exact ⟨k + 1, by omega, by go_num, X1, HF⟩
        case measure => simp [intOf]; omega
    · have HF : Hid (fstP p l = none) := fstP_not (fun j y hy => HN.out j y (by have := (List.getElem?_eq_some_iff.1 hy).1; omega) hy)
      generalize l.length = n at *
      go_wp2
      go_ret
      exact ⟨ret_int (by rw [HF.out]; rfl), HB.out⟩
theorem hasT_any (g : Nat) (lb : Array Value) (A : Option Addr) (c : Nat) (l : List (List NodeL)) (p : List NodeL → Bool) (w : World) (hr : RdW w w.heap.size A l) (hn : l.length ≤ 1000000000)
    (eg : ∀ args w, (callFunc g args).run Tryz.prog w = .ok (.enter g args) w)
    (hp : ∀ (W : World) (i : Nat) (x : List NodeL) (A' : Option Addr) (c' : Nat), Below w.heap.size w W → l[i]? = some x → x.length ≤ c' → RdV w w.heap.size A' x → Calls Tryz.prog g (#[.slice A' x.length c'] ++ lb) W fun e w' => e = .returned (.bool (p x)) ∧ Below w.heap.size w w') :
    Calls Tryz.prog 36 #[.slice A l.length c, .func (.func g) #[] lb] w fun e w' => e = .returned (.bool (l.any p)) ∧ Below w.heap.size w w' := by
  have H := Lib.hid (idxT_any g lb A c l p w hr hn eg hp)
  have HX : Box (l.any p = decide (0 ≤ placeI (fstP p l))) := ⟨by rw [placeI_ge, fstP_any]⟩
  generalize placeI (fstP p l) = r at *
  generalize l.any p = b at *
  generalize l.length = n at *
  clear hp hr
  go_enter Tryz.func36, Tryz.ntmps36
  go_wp2_with fail
  refine H.out.mono ?_
  rintro e w1 ⟨rfl, hb1⟩
  go_wp2
  go_ret
  exact ⟨ret_bool HX.out.symm, hb1⟩
end Go.Proofs.YtnfokaecobddkaaGreatDoor
end
section
namespace Go.Proofs.YtnfokaecobddkaaGreatDoor
open Go.RowKit
set_option linter.unusedSimpArgs false
set_option linter.unusedVariables false
theorem flat_len {α β : Type} {f : α → List β} {s : Nat} (hf : ∀ x, (f x).length = s) : ∀ l : List α, (l.flatMap f).length = l.length * s
  | [] => by simp
  | x :: t => by rw [List.flatMap_cons, List.length_append, hf, flat_len hf t, List.length_cons, Nat.add_mul]; omega
theorem flat_get {α β : Type} {f : α → List β} {s : Nat} (hf : ∀ x, (f x).length = s) : ∀ {l : List α} {i : Nat} {x : α}, l[i]? = some x → ∀ j, j < s → (l.flatMap f)[i * s + j]? = (f x)[j]?
  | [], i, x, h, _, _ => by simp at h
  | y :: t, i, x, h, j, hj => by
    rw [List.flatMap_cons]
    cases i with
    | zero =>
      simp only [List.getElem?_cons_zero, Option.some.injEq] at h
      subst h
      rw [Nat.zero_mul, Nat.zero_add, List.getElem?_append_left (by rw [hf]; exact hj)]
    | succ i =>
      rw [show (i + 1) * s + j = s + (i * s + j) by rw [Nat.add_mul]; omega, List.getElem?_append_right (by rw [hf]; omega), hf, Nat.add_sub_cancel_left]
      exact flat_get hf (by simpa using h) j hj
theorem flat_set {α β : Type} {f : α → List β} {s : Nat} (hf : ∀ x, (f x).length = s) : ∀ {l : List α} {i : Nat} {x x' : α} {j : Nat} {u : β}, l[i]? = some x → j < s → f x' = (f x).set j u → (l.flatMap f).set (i * s + j) u = (l.set i x').flatMap f
  | [], i, x, x', j, u, h, _, _ => by simp at h
  | y :: t, i, x, x', j, u, h, hj, he => by
    rw [List.flatMap_cons]
    cases i with
    | zero =>
      simp only [List.getElem?_cons_zero, Option.some.injEq] at h
      subst h
      rw [Nat.zero_mul, Nat.zero_add, List.set_append_left _ _ (by rw [hf]; exact hj), List.set_cons_zero, List.flatMap_cons, he]
    | succ i =>
      rw [show (i + 1) * s + j = s + (i * s + j) by rw [Nat.add_mul]; omega, List.set_append_right _ _ (by rw [hf]; omega), hf, Nat.add_sub_cancel_left, List.set_cons_succ, List.flatMap_cons, flat_set hf (by simpa using h) hj he]
theorem flat_at {α β : Type} {f : α → List β} {s : Nat} (hs : 0 < s) (hf : ∀ x, (f x).length = s) {l : List α} {j : Nat} {u : β} (h : (l.flatMap f)[j]? = some u) : ∃ i r x, j = i * s + r ∧ r < s ∧ l[i]? = some x ∧ (f x)[r]? = some u := by
  have hl := (List.getElem?_eq_some_iff.1 h).1
  rw [flat_len hf] at hl
  have hi : j / s < l.length := by rw [Nat.div_lt_iff_lt_mul hs]; exact hl
  have hr : j % s < s := Nat.mod_lt _ hs
  have hj : j = j / s * s + j % s := by rw [Nat.mul_comm]; exact (Nat.div_add_mod j s).symm
  have hx : l[j / s]? = some (l[j / s]) := List.getElem?_eq_getElem hi
  refine ⟨j / s, j % s, _, hj, hr, hx, ?_⟩
  rw [← flat_get hf hx (j % s) hr, ← hj, h]
def cA (a : AttrL) : List Value := [.string a.space, .string a.name, .string a.value]
def cellsA (l : List AttrL) : List Value := l.flatMap cA
theorem cA_len (a : AttrL) : (cA a).length = 3 := rfl
abbrev NodeH := NodeL × Option Addr × Nat
def cN (x : NodeH) : List Value := [.int .u8 x.1.kind, .string x.1.space, .string x.1.name, .slice x.2.1 x.1.attrs.length x.2.2, .string x.1.text, .int .i64 x.1.many]
def cellsN (l : List NodeH) : List Value := l.flatMap cN
theorem cN_len (x : NodeH) : (cN x).length = 6 := rfl
abbrev TreeH := List NodeL × Option Addr × Nat
def cT (x : TreeH) : Value := .slice x.2.1 x.1.length x.2.2
def cellsT (l : List TreeH) : List Value := l.map cT
theorem cellsA_len (l : List AttrL) : (cellsA l).length = l.length * 3 := flat_len cA_len l
theorem cellsN_len (l : List NodeH) : (cellsN l).length = l.length * 6 := flat_len cN_len l
theorem cellsA_app (l m : List AttrL) : cellsA (l ++ m) = cellsA l ++ cellsA m := by simp [cellsA]
theorem cellsN_app (l m : List NodeH) : cellsN (l ++ m) = cellsN l ++ cellsN m := by simp [cellsN]
theorem cellsT_app (l m : List TreeH) : cellsT (l ++ m) = cellsT l ++ cellsT m := by simp [cellsT]
theorem cellsA_one (l : List AttrL) : ∀ u ∈ cellsA l, u.oneCell' = true := by
  intro u hu
  simp only [cellsA, List.mem_flatMap, cA, List.mem_cons, List.not_mem_nil, or_false] at hu
  obtain ⟨a, -, rfl | rfl | rfl⟩ := hu <;> rfl
theorem cellsN_one (l : List NodeH) : ∀ u ∈ cellsN l, u.oneCell' = true := by
  intro u hu
  simp only [cellsN, List.mem_flatMap, cN, List.mem_cons, List.not_mem_nil, or_false] at hu
  obtain ⟨a, -, rfl | rfl | rfl | rfl | rfl | rfl⟩ := hu <;> rfl
theorem cellsT_one (l : List TreeH) : ∀ u ∈ cellsT l, u.oneCell' = true := by
  intro u hu
  simp only [cellsT, List.mem_map, cT] at hu
  obtain ⟨a, -, rfl⟩ := hu
  rfl
variable {w w' : World}
theorem rda_rd {B : Nat} {A : Option Addr} {l : List AttrL} (h : RdA w B A l) : Rd w B 3 A l.length (cellsA l) := by
  refine ⟨cellsA_len l, fun h0 => ?_⟩
  obtain ⟨b, off, rfl, hb, hc⟩ := h h0
  refine ⟨b, off, rfl, hb, fun j u hu => ?_⟩
  obtain ⟨i, r, x, rfl, hr, hx, hru⟩ := flat_at (by decide) cA_len hu
  obtain ⟨c0, c1, c2⟩ := hc i x hx
  have hr3 : r = 0 ∨ r = 1 ∨ r = 2 := by omega
  rcases hr3 with rfl | rfl | rfl
  all_goals
    simp only [cA, List.getElem?_cons_zero, List.getElem?_cons_succ, Option.some.injEq] at hru
    subst hru
    simp only [Nat.add_zero, ← Nat.add_assoc]
    assumption
theorem rd_rda {B : Nat} {A : Option Addr} {l : List AttrL} (h : Rd w B 3 A l.length (cellsA l)) : RdA w B A l := fun h0 => by
  obtain ⟨b, off, rfl, hb, hc⟩ := h.2 h0
  refine ⟨b, off, rfl, hb, fun i a hi => ?_⟩
  have g := fun r hr => flat_get cA_len hi r hr
  refine ⟨?_, ?_, ?_⟩
  · exact hc (i * 3 + 0) _ ((g 0 (by decide)).trans rfl)
  · rw [Nat.add_assoc]; exact hc (i * 3 + 1) _ ((g 1 (by decide)).trans rfl)
  · rw [Nat.add_assoc]; exact hc (i * 3 + 2) _ ((g 2 (by decide)).trans rfl)
def HeldA (w : World) (B : Nat) (l : List NodeH) : Prop := ∀ (i : Nat) (x : NodeH), l[i]? = some x → x.1.attrs.length ≤ x.2.2 ∧ RdA w B x.2.1 x.1.attrs
theorem rdv_rd {B : Nat} {A : Option Addr} {v : List NodeL} (h : RdV w B A v) : ∃ l : List NodeH, l.map (·.1) = v ∧ Rd w B 6 A v.length (cellsN l) ∧ HeldA w B l := by
  rcases Nat.eq_zero_or_pos v.length with h0 | h0
  · obtain rfl := List.eq_nil_of_length_eq_zero h0
    exact ⟨[], rfl, ⟨rfl, fun h => absurd h (by simp)⟩, fun i x hx => by simp at hx⟩
  · obtain ⟨b, off, rfl, hb, hc⟩ := h h0
    obtain ⟨l, hl, hp⟩ := list_of (P := fun i (x : NodeH) => v[i]? = some x.1 ∧ w.cell? ⟨b, off + i * 6, none⟩ = some (.int .u8 x.1.kind) ∧ w.cell? ⟨b, off + i * 6 + 1, none⟩ = some (.string x.1.space) ∧ w.cell? ⟨b, off + i * 6 + 2, none⟩ = some (.string x.1.name) ∧
        w.cell? ⟨b, off + i * 6 + 3, none⟩ = some (.slice x.2.1 x.1.attrs.length x.2.2) ∧ w.cell? ⟨b, off + i * 6 + 4, none⟩ = some (.string x.1.text) ∧ w.cell? ⟨b, off + i * 6 + 5, none⟩ = some (.int .i64 x.1.many) ∧ x.1.attrs.length ≤ x.2.2 ∧ RdA w B x.2.1 x.1.attrs) v.length fun i hi => by
      obtain ⟨c0, c1, c2, ⟨A, c, c3, hl, hA⟩, c4, c5⟩ := hc i v[i] (List.getElem?_eq_getElem hi)
      exact ⟨(v[i], A, c), List.getElem?_eq_getElem hi, c0, c1, c2, c3, c4, c5, hl, hA⟩
    refine ⟨l, ?_, ⟨by rw [cellsN_len, hl], fun _ => ⟨b, off, rfl, hb, fun j u hu => ?_⟩⟩, fun i x hx => ?_⟩
    · apply List.ext_getElem?
      intro i
      rw [List.getElem?_map]
      by_cases hi : i < l.length
      · have hx := List.getElem?_eq_getElem hi
        rw [hx, (hp i _ hx).1]
        rfl
      · rw [List.getElem?_eq_none (by omega), List.getElem?_eq_none (by omega)]
        rfl
    · obtain ⟨i, r, x, rfl, hr, hx, hru⟩ := flat_at (by decide) cN_len hu
      obtain ⟨-, c0, c1, c2, c3, c4, c5, -, -⟩ := hp i x hx
      have hr6 : r = 0 ∨ r = 1 ∨ r = 2 ∨ r = 3 ∨ r = 4 ∨ r = 5 := by omega
      rcases hr6 with rfl | rfl | rfl | rfl | rfl | rfl
      all_goals
        simp only [cN, List.getElem?_cons_zero, List.getElem?_cons_succ, Option.some.injEq] at hru
        subst hru
        simp only [Nat.add_zero, ← Nat.add_assoc]
        assumption
    · obtain ⟨-, -, -, -, -, -, -, h1, h2⟩ := hp i x hx
      exact ⟨h1, h2⟩
theorem rd_rdv {B : Nat} {A : Option Addr} {l : List NodeH} (h : Rd w B 6 A l.length (cellsN l)) (hh : HeldA w B l) : RdV w B A (l.map (·.1)) := fun h0 => by
  rw [List.length_map] at h0
  obtain ⟨b, off, rfl, hb, hc⟩ := h.2 h0
  refine ⟨b, off, rfl, hb, fun i n hi => ?_⟩
  rw [List.getElem?_map, Option.map_eq_some_iff] at hi
  obtain ⟨x, hi, rfl⟩ := hi
  have g := fun r hr => flat_get cN_len hi r hr
  obtain ⟨h1, h2⟩ := hh i x hi
  refine ⟨?_, ?_, ?_, ⟨x.2.1, x.2.2, ?_, h1, h2⟩, ?_, ?_⟩
  · exact hc (i * 6 + 0) _ ((g 0 (by decide)).trans rfl)
  · rw [Nat.add_assoc]; exact hc (i * 6 + 1) _ ((g 1 (by decide)).trans rfl)
  · rw [Nat.add_assoc]; exact hc (i * 6 + 2) _ ((g 2 (by decide)).trans rfl)
  · rw [Nat.add_assoc]; exact hc (i * 6 + 3) _ ((g 3 (by decide)).trans rfl)
  · rw [Nat.add_assoc]; exact hc (i * 6 + 4) _ ((g 4 (by decide)).trans rfl)
  · rw [Nat.add_assoc]; exact hc (i * 6 + 5) _ ((g 5 (by decide)).trans rfl)
theorem info_attr : (Tryz.prog.info? 80).map (fun i => (i.zero, i.size, i.bytes)) = some (some (.agg #[.string ⟨#[]⟩, .string ⟨#[]⟩, .string ⟨#[]⟩]), 3, 48) := by kernel_rfl
theorem info_node : (Tryz.prog.info? 69).map (fun i => (i.zero, i.size, i.bytes)) = some (some (.agg #[.int .u8 0, .string ⟨#[]⟩, .string ⟨#[]⟩, .slice none 0 0, .string ⟨#[]⟩, .int .i64 0]), 6, 88) := by kernel_rfl
theorem info_tree : (Tryz.prog.info? 30).map (fun i => (i.zero, i.size, i.bytes)) = some (some (.slice none 0 0), 1, 24) := by kernel_rfl
theorem app_attrs {ops : Array Oper} {rest : List Oper} {o : Oper} {a : Act} {Q : Exit → Act → World → Prop} (hgd : o.guard = none) (s x : Operand)
    (ho : o.op = .call { callee := .builtin .append, args := #[s, x], argTypes := #[67, 67] })
    (base : Nat) (v : Value) (n : Nat) (xs : List AttrL) (hs : a.eval s = v) (hown : w.ownsRow base 80 3 v n (cellsA xs))
    (B : Nat) (A : Option Addr) (m c : Nat) (news : List AttrL) (hx : a.eval x = .slice A m c) (hr : Rd w B 3 A m (cellsA news)) (hb : n + m ≤ 1000000000000) (hbase : base ≤ w.heap.size)
    (h : ∀ v' w', w'.ownsRow base 80 3 v' (n + m) (cellsA (xs ++ news)) → w.grownBy w' v.ownBlock → (v'.ownBlock = v.ownBlock ∨ v'.ownBlock = some w.heap.size) → wpList Tryz.prog ops Q rest (a.put o.dst v') w') : wpList Tryz.prog ops Q (o :: rest) a w := by
  obtain ⟨i0, hi, hz0, hz1, hz2⟩ := info_parts info_attr
  refine app_wpList w hgd s x _ ho base _ i0 (.agg #[.string ⟨#[]⟩, .string ⟨#[]⟩, .string ⟨#[]⟩]) 3 48 Tryz.underlying67 hi hz0 hz1 hz2 rfl (by decide) v n _ hs hown B A m c _ hx hr (cellsA_one _) (by unfold maxLen; omega) (by omega) hbase ?_
  rw [← cellsA_app]; exact h
theorem app_nodes {ops : Array Oper} {rest : List Oper} {o : Oper} {a : Act} {Q : Exit → Act → World → Prop} (hgd : o.guard = none) (s x : Operand)
    (ho : o.op = .call { callee := .builtin .append, args := #[s, x], argTypes := #[30, 30] })
    (base : Nat) (v : Value) (n : Nat) (xs : List NodeH) (hs : a.eval s = v) (hown : w.ownsRow base 69 6 v n (cellsN xs))
    (B : Nat) (A : Option Addr) (m c : Nat) (news : List NodeH) (hx : a.eval x = .slice A m c) (hr : Rd w B 6 A m (cellsN news)) (hb : n + m ≤ 1000000000000) (hbase : base ≤ w.heap.size)
    (h : ∀ v' w', w'.ownsRow base 69 6 v' (n + m) (cellsN (xs ++ news)) → w.grownBy w' v.ownBlock → (v'.ownBlock = v.ownBlock ∨ v'.ownBlock = some w.heap.size) → wpList Tryz.prog ops Q rest (a.put o.dst v') w') : wpList Tryz.prog ops Q (o :: rest) a w := by
  obtain ⟨i0, hi, hz0, hz1, hz2⟩ := info_parts info_node
  refine app_wpList w hgd s x _ ho base _ i0 (.agg #[.int .u8 0, .string ⟨#[]⟩, .string ⟨#[]⟩, .slice none 0 0, .string ⟨#[]⟩, .int .i64 0]) 6 88 Tryz.underlying30 hi hz0 hz1 hz2 rfl (by decide) v n _ hs hown B A m c _ hx hr (cellsN_one _) (by unfold maxLen; omega) (by omega) hbase ?_
  rw [← cellsN_app]; exact h
theorem app_trees {ops : Array Oper} {rest : List Oper} {o : Oper} {a : Act} {Q : Exit → Act → World → Prop} (hgd : o.guard = none) (s x : Operand)
    (ho : o.op = .call { callee := .builtin .append, args := #[s, x], argTypes := #[22, 22] })
    (base : Nat) (v : Value) (n : Nat) (xs : List TreeH) (hs : a.eval s = v) (hown : w.ownsRow base 30 1 v n (cellsT xs))
    (B : Nat) (A : Option Addr) (m c : Nat) (news : List TreeH) (hx : a.eval x = .slice A m c) (hr : Rd w B 1 A m (cellsT news)) (hb : n + m ≤ 1000000000000) (hbase : base ≤ w.heap.size)
    (h : ∀ v' w', w'.ownsRow base 30 1 v' (n + m) (cellsT (xs ++ news)) → w.grownBy w' v.ownBlock → (v'.ownBlock = v.ownBlock ∨ v'.ownBlock = some w.heap.size) → wpList Tryz.prog ops Q rest (a.put o.dst v') w') : wpList Tryz.prog ops Q (o :: rest) a w := by
  obtain ⟨i0, hi, hz0, hz1, hz2⟩ := info_parts info_tree
  refine app_wpList w hgd s x _ ho base _ i0 (.slice none 0 0) 1 24 Tryz.underlying22 hi hz0 hz1 hz2 rfl (by decide) v n _ hs hown B A m c _ hx hr (cellsT_one _) (by unfold maxLen; omega) (by omega) hbase ?_
  rw [← cellsT_app]; exact h
end Go.Proofs.YtnfokaecobddkaaGreatDoor
end
section
namespace Go.Proofs.YtnfokaecobddkaaGreatDoor
open Go.RowKit
set_option linter.unusedSimpArgs false
set_option linter.unusedVariables false
theorem eql_nil {P : Program} (w : World) (t e : TypeId) (a : Option Addr) (l c : Nat) (h : P.underlying t = some (.slice e)) : (binOp .eql t (.slice a l c) (.slice none 0 0)).run P w = .ok (.bool a.isNone) w := by
  simp [binOp, run_equal_slice_nil w t e a l c h]
set_option maxRecDepth 10000 in
theorem clone_attrs (A : Option Addr) (c : Nat) (l : List AttrL) (w : World) (hr : Rd w w.heap.size 3 A l.length (cellsA l)) (hn : l.length ≤ 1000000000) :
    Calls Tryz.prog 122 #[.slice A l.length c] w fun e w' => ∃ v', e = .returned v' ∧ w'.ownsRow w.heap.size 80 3 v' l.length (cellsA l) ∧ Below w.heap.size w w' := by
  cases A with
  | none =>
    have h0 : l.length = 0 := by
      rcases Nat.eq_zero_or_pos l.length with h0 | h0
      · exact h0
      · obtain ⟨_, _, h, _⟩ := hr.2 h0
        cases h
    obtain rfl := List.eq_nil_of_length_eq_zero h0
    clear h0 hr
    rw [List.length_nil]
    have hq := fun W => eql_nil (P := Tryz.prog) W 67 80 none 0 c Tryz.underlying67
    rw [Option.isNone_none] at hq
    go_enter Tryz.func122, Tryz.ntmps122
    go_wp2
    go_ret
    exact ⟨_, rfl, World.ownsRow_nil _ _ _ _, Below.refl _ _⟩
  | some ad =>
    have HR := Lib.hid hr
    clear hr
    have HO : Hid ((w.alloc (.cells #[] 80)).ownsRow w.heap.size 80 3 (.slice (some ⟨w.heap.size, 0, none⟩) 0 0) 0 (cellsA [])) := World.ownsRow_lit w #[] 0 (Nat.le_refl _) (by decide) rfl
    have HRA : Hid (Rd (w.alloc (.cells #[] 80)) w.heap.size 3 (some ad) l.length (cellsA l)) := HR.out.alloc (Nat.le_refl _) _
    have HX : Hid (Below w.heap.size w (w.alloc (.cells #[] 80))) := (Below.refl _ _).alloc (Nat.le_refl _) _
    generalize hL : l.length = N at *
    have HL := Lib.hid hL
    have hq := fun W => eql_nil (P := Tryz.prog) W 67 80 (some ad) N c Tryz.underlying67
    rw [Option.isNone_some] at hq
    clear hL
    go_enter Tryz.func122, Tryz.ntmps122
    go_wp2_with (at_builtin; refine app_attrs rfl _ _ rfl w.heap.size _ 0 [] rfl HO.out _ _ _ _ l rfl HRA.out (by omega) (by simp) ?_)
    intro v' w2 hown2 hg _
    have X2 : Hid (Below w.heap.size w w2) := HX.out.grown hg (by simp) (fun q hq => by simp [Value.ownBlock] at hq; omega)
    have HO2 := Lib.hid hown2
    clear hown2 hg
    go_wp2
    go_ret
    exact ⟨_, rfl, by simpa using HO2.out, X2.out⟩
set_option maxRecDepth 10000 in
theorem clone_nodes (A : Option Addr) (c : Nat) (l : List NodeH) (w : World) (hr : Rd w w.heap.size 6 A l.length (cellsN l)) (hn : l.length ≤ 1000000000) :
    Calls Tryz.prog 121 #[.slice A l.length c] w fun e w' => ∃ v', e = .returned v' ∧ w'.ownsRow w.heap.size 69 6 v' l.length (cellsN l) ∧ Below w.heap.size w w' := by
  cases A with
  | none =>
    have h0 : l.length = 0 := by
      rcases Nat.eq_zero_or_pos l.length with h0 | h0
      · exact h0
      · obtain ⟨_, _, h, _⟩ := hr.2 h0
        cases h
    obtain rfl := List.eq_nil_of_length_eq_zero h0
    clear h0 hr
    rw [List.length_nil]
    have hq := fun W => eql_nil (P := Tryz.prog) W 30 69 none 0 c Tryz.underlying30
    rw [Option.isNone_none] at hq
    go_enter Tryz.func121, Tryz.ntmps121
    go_wp2
    go_ret
    exact ⟨_, rfl, World.ownsRow_nil _ _ _ _, Below.refl _ _⟩
  | some ad =>
    have HR := Lib.hid hr
    clear hr
    have HO : Hid ((w.alloc (.cells #[] 69)).ownsRow w.heap.size 69 6 (.slice (some ⟨w.heap.size, 0, none⟩) 0 0) 0 (cellsN [])) := World.ownsRow_lit w #[] 0 (Nat.le_refl _) (by decide) rfl
    have HRA : Hid (Rd (w.alloc (.cells #[] 69)) w.heap.size 6 (some ad) l.length (cellsN l)) := HR.out.alloc (Nat.le_refl _) _
    have HX : Hid (Below w.heap.size w (w.alloc (.cells #[] 69))) := (Below.refl _ _).alloc (Nat.le_refl _) _
    generalize hL : l.length = N at *
    have HL := Lib.hid hL
    have hq := fun W => eql_nil (P := Tryz.prog) W 30 69 (some ad) N c Tryz.underlying30
    rw [Option.isNone_some] at hq
    clear hL
    go_enter Tryz.func121, Tryz.ntmps121
    go_wp2_with (at_builtin; refine app_nodes rfl _ _ rfl w.heap.size _ 0 [] rfl HO.out _ _ _ _ l rfl HRA.out (by omega) (by simp) ?_)
    intro v' w2 hown2 hg _
    have X2 : Hid (Below w.heap.size w w2) := HX.out.grown hg (by simp) (fun q hq => by simp [Value.ownBlock] at hq; omega)
    have HO2 := Lib.hid hown2
    clear hown2 hg
    go_wp2
    go_ret
    exact ⟨_, rfl, by simpa using HO2.out, X2.out⟩
end Go.Proofs.YtnfokaecobddkaaGreatDoor
end
