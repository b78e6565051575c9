import Derived.Test.YtnmnpnofdgdigaaGreatDoorZ08
import Derived.Lib.IndexLaws
import Derived.Test.YtnmnpnofdgdigaaGreatDoorZ02
import Derived.Test.YtnmnpnofdgdigaaGreatDoorZ01
import Derived.Test.YtnmnpnofdgdigaaGreatDoorZ04
import Derived.Deep.Slices
import Derived.Deep.Fields
import Derived.ChangeSame
set_option linter.all false
section
/- Layer 9 (lex): a text cut at a byte; full names, the program's and the document's. -/
namespace Go.Proofs.YtnmnpnofdgdigaaGreatDoor
open Go.RowKit
set_option linter.unusedSimpArgs false
set_option linter.unusedVariables false
theorem idx_none (s : ByteArray) (c : UInt8) (h : fstL (numsOf s) (c.toNat : Int) = none) : Lib.indexByte s.data.toList c = -1 := by
  by_cases hm : ∃ o : Nat, Lib.indexByte s.data.toList c = o
  · obtain ⟨o, ho⟩ := hm
    have h1 := (Lib.indexByte_some ho).1
    exact absurd rfl (fstL_none h o (c.toNat : Int) (by unfold numsOf; rw [List.getElem?_map, h1]; rfl))
  · have := Lib.indexByte_ge s.data.toList c
    rcases (by omega : Lib.indexByte s.data.toList c = -1 ∨ 0 ≤ Lib.indexByte s.data.toList c) with h1 | h1
    · exact h1
    · exact absurd ⟨(Lib.indexByte s.data.toList c).toNat, by omega⟩ hm
theorem idx_some (s : ByteArray) (c : UInt8) (i : Nat) (h : fstL (numsOf s) (c.toNat : Int) = some i) : Lib.indexByte s.data.toList c = (i : Int) ∧ i < s.size := by
  obtain ⟨h1, h2⟩ := fstL_some h
  have hlt : i < s.size := by rw [← numsOf_length]; exact (List.getElem?_eq_some_iff.1 h1).1
  refine ⟨?_, hlt⟩
  have get : ∀ k : Nat, s.data.toList[k]? = some c → (numsOf s)[k]? = some (c.toNat : Int) := fun k hk => by unfold numsOf; rw [List.getElem?_map, hk]; rfl
  have back : s.data.toList[i]? = some c := by
    unfold numsOf at h1
    rw [List.getElem?_map, Option.map_eq_some_iff] at h1
    obtain ⟨b, hb, e⟩ := h1
    rw [hb]
    congr 1
    exact UInt8.toNat_inj.1 (by omega)
  have hge := Lib.indexByte_ge s.data.toList c
  have hcase : Lib.indexByte s.data.toList c = -1 ∨ ∃ o : Nat, Lib.indexByte s.data.toList c = o := by
    by_cases h0 : Lib.indexByte s.data.toList c = -1
    · exact .inl h0
    · exact .inr ⟨(Lib.indexByte s.data.toList c).toNat, by omega⟩
  rcases hcase with h3 | ⟨o, ho⟩
  · exact absurd back (Lib.indexByte_none h3 i)
  · obtain ⟨g1, g2⟩ := Lib.indexByte_some ho
    rcases Nat.lt_trichotomy o i with h4 | h4 | h4
    · exact absurd rfl (h2 o _ h4 (get o g1))
    · rw [ho, h4]
    · exact absurd back (g2 i h4)
/-- what a cut gives -/
def cutI (s : ByteArray) (c : Int) : ByteArray × ByteArray × Bool := match fstL (numsOf s) c with
  | none => (s, ⟨#[]⟩, false)
  | some i => (s.extract 0 i, s.extract (i + 1) s.size, true)
def CutPost (s : ByteArray) (c : Int) (w : World) (e : Ending) (w' : World) : Prop := e = .returned (.tuple #[.string (cutI s c).1, .string (cutI s c).2.1, .bool (cutI s c).2.2]) ∧ Below w.heap.size w w'
set_option maxHeartbeats 1000000 in
set_option maxRecDepth 10000 in
theorem cut_any (s : ByteArray) (c : UInt8) (w : World) (hs : s.size ≤ 1000000000) : Calls Tryz.prog 200 #[.string s, .string ⟨#[c]⟩] w (CutPost s (c.toNat : Int) w) := by
  have HI := Lib.hid (fun W => (Tryz.stringslite_Index_one s c W).mono fun e w' h => (⟨h.1, h.2.symm⟩ : e = _ ∧ W = w'))
  cases hf : fstL (numsOf s) (c.toNat : Int) with
  | none =>
    have HC : Box (cutI s (c.toNat : Int) = (s, ⟨#[]⟩, false)) := ⟨by unfold cutI; rw [hf]⟩
    rw [idx_none s c hf] at HI
    clear hf
    go_enter Tryz.func200, Tryz.ntmps200
    go_wp2_with fail
    refine (HI.out _).mono ?_
    rintro e w1 ⟨rfl, rfl⟩
    go_wp2
    go_ret3
    exact ⟨by rw [HC.out]; rfl, Below.refl _ _⟩
  | some i =>
    obtain ⟨h1, h2⟩ := idx_some s c i hf
    have HC : Box (cutI s (c.toNat : Int) = (s.extract 0 i, s.extract (i + 1) s.size, true)) := ⟨by unfold cutI; rw [hf]⟩
    rw [h1] at HI
    have hz : (⟨#[c]⟩ : ByteArray).size = 1 := rfl
    have hii : (i : Int) ≤ (s.size : Int) := by omega
    have hi1 : (i : Int) + 1 ≤ (s.size : Int) := by omega
    have hf1 : ∀ W, (Instr.slice 9 (.string s) none (some (.int .i64 (i : Int))) none).run Tryz.prog W = .ok (.string (s.extract 0 i)) W := fun W =>
      run_slice_string_h (P := Tryz.prog) (w := W) (t := 9) (s := s) Tryz.underlying9 .i64 (i : Int) (by omega) (by omega)
    have hf2 : ∀ W, (Instr.slice 9 (.string s) (some (.int .i64 ((i : Int) + 1))) none none).run Tryz.prog W = .ok (.string (s.extract (i + 1) s.size)) W := fun W => by
      have h1 := run_slice_string_l (P := Tryz.prog) (w := W) (t := 9) (s := s) Tryz.underlying9 .i64 ((i : Int) + 1) (by omega) (by omega)
      rwa [show ((i : Int) + 1).toNat = i + 1 by omega] at h1
    clear hf h1
    go_enter Tryz.func200, Tryz.ntmps200
    go_wp2_with fail
    refine (HI.out _).mono ?_
    rintro e w1 ⟨rfl, rfl⟩
    go_wp2_with fail
    refine wp_region_typed rfl (by kernel_rfl) (by kernel_rfl) ?_
    repeat (first | refine tw_skip (wd_no rfl rfl rfl) ?_ | refine tw_mv (.inl rfl) rfl (by first | exact wd_none rfl | exact wd_yes rfl rfl rfl) ?_ | refine tw_mv (.inr rfl) rfl (by first | exact wd_none rfl | exact wd_yes rfl rfl rfl) ?_ | refine tw_pickL rfl rfl rfl (by first | exact wd_none rfl | exact wd_yes rfl rfl rfl) ?_ | refine tw_op1 _ rfl rfl (by first | exact wd_none rfl | exact wd_yes rfl rfl rfl) (fun ρ W hW h1 => by simp only [execOp, h1]; go_simp; first | done | rfl) ?_ | refine tw_op2 _ rfl rfl rfl (by first | exact wd_none rfl | exact wd_yes rfl rfl rfl) (fun ρ W hW h1 h2 => by simp only [execOp, h1, h2]; go_simp; first | done | rfl) ?_)
    refine tw_op2 (x := .tmp 13) (y := .tmp 14) (c := .string s) (e := .int .i64 (i : Int)) (.string (s.extract 0 i)) rfl rfl rfl (by first | exact wd_none rfl | exact wd_yes rfl rfl rfl) (fun ρ W hW h1 h2 => by simp only [execOp, h1, h2, Option.map]; go_simp) ?_
    repeat (first | refine tw_skip (wd_no rfl rfl rfl) ?_ | refine tw_mv (.inl rfl) rfl (by first | exact wd_none rfl | exact wd_yes rfl rfl rfl) ?_ | refine tw_mv (.inr rfl) rfl (by first | exact wd_none rfl | exact wd_yes rfl rfl rfl) ?_ | refine tw_pickL rfl rfl rfl (by first | exact wd_none rfl | exact wd_yes rfl rfl rfl) ?_ | refine tw_op1 _ rfl rfl (by first | exact wd_none rfl | exact wd_yes rfl rfl rfl) (fun ρ W hW h1 => by simp only [execOp, h1]; go_simp; first | done | rfl) ?_ | refine tw_op2 _ rfl rfl rfl (by first | exact wd_none rfl | exact wd_yes rfl rfl rfl) (fun ρ W hW h1 h2 => by simp only [execOp, h1, h2]; go_simp; first | done | rfl) ?_)
    refine tw_lens (s := ⟨#[c]⟩) rfl rfl (by first | exact wd_none rfl | exact wd_yes rfl rfl rfl) ?_
    refine tw_op2 (x := .tmp 17) (y := .tmp 19) (c := .int .i64 (i : Int)) (e := .int .i64 1) (.int .i64 ((i : Int) + 1)) rfl rfl rfl (by first | exact wd_none rfl | exact wd_yes rfl rfl rfl) (fun ρ W hW h1 h2 => by simp only [execOp, h1, h2]; go_simp; rw [IntKind.wrap_i64]; omega) ?_
    refine tw_op2 (x := .tmp 16) (y := .tmp 20) (c := .string s) (e := .int .i64 ((i : Int) + 1)) (.string (s.extract (i + 1) s.size)) rfl rfl rfl (by first | exact wd_none rfl | exact wd_yes rfl rfl rfl) (fun ρ W hW h1 h2 => by simp only [execOp, h1, h2, Option.map]; go_simp) ?_
    repeat (first | refine tw_skip (wd_no rfl rfl rfl) ?_ | refine tw_mv (.inl rfl) rfl (by first | exact wd_none rfl | exact wd_yes rfl rfl rfl) ?_ | refine tw_mv (.inr rfl) rfl (by first | exact wd_none rfl | exact wd_yes rfl rfl rfl) ?_ | refine tw_pickL rfl rfl rfl (by first | exact wd_none rfl | exact wd_yes rfl rfl rfl) ?_ | refine tw_op1 _ rfl rfl (by first | exact wd_none rfl | exact wd_yes rfl rfl rfl) (fun ρ W hW h1 => by simp only [execOp, h1]; go_simp; first | done | rfl) ?_ | refine tw_op2 _ rfl rfl rfl (by first | exact wd_none rfl | exact wd_yes rfl rfl rfl) (fun ρ W hW h1 h2 => by simp only [execOp, h1, h2]; go_simp; first | done | rfl) ?_)
    dsimp only [wpT, List.reverse, List.reverseAux, FinT]
    intro W hW _
    simp only [Act.put, List.setIfInBounds_toArray, List.set_cons_zero, List.set_cons_succ]
    have XW := Lib.hid ((Below.refl w.heap.size w).drew.trans (Below.mono hW (Nat.le_refl _)))
    clear hW
    go_wp2
    go_ret3
    exact ⟨by rw [HC.out]; rfl, XW.out⟩
end Go.Proofs.YtnmnpnofdgdigaaGreatDoor
end
section
/- Plain law of addresses (layer 19): what is read of a text, the program's way and the document's. No program here. -/
namespace Go.Proofs.YtnmnpnofdgdigaaGreatDoor
def emB : ByteArray := ⟨#[]⟩
def textJ (j : JidL) : ByteArray := (if isEmp j.loc then j.dom else j.loc ++ (⟨#[64]⟩ : ByteArray) ++ j.dom) ++ (if isEmp j.res then emB else (⟨#[47]⟩ : ByteArray) ++ j.res)
def readJ (s : ByteArray) : JidL :=
  if (cutI (lowI (cutI s 47).1) 64).2.2 then ⟨(cutI (lowI (cutI s 47).1) 64).1, (cutI (lowI (cutI s 47).1) 64).2.1, (cutI s 47).2.1⟩ else ⟨emB, lowI (cutI s 47).1, (cutI s 47).2.1⟩
def hasL (s : ByteArray) : Bool := (cutI (lowI (cutI s 47).1) 64).2.2
def hasR (s : ByteArray) : Bool := (cutI s 47).2.2
def parseI (s : ByteArray) : Option JidL :=
  if (hasL s && isEmp (readJ s).loc || hasR s && isEmp (readJ s).res || !jidI (readJ s)) then none else some (readJ s)
def wantJ (s : ByteArray) : ByteArray := if hasR s then lowI (cutI s 47).1 ++ (⟨#[47]⟩ : ByteArray) ++ (readJ s).res else lowI (cutI s 47).1
theorem data_app (a b : ByteArray) : (a ++ b).data.toList = a.data.toList ++ b.data.toList := by simp
theorem ba_ext {a b : ByteArray} (h : a.data.toList = b.data.toList) : a = b := by
  cases a; cases b
  simp only [Array.toList_inj] at h
  rw [h]
theorem app_size (a b : ByteArray) : (a ++ b).size = a.size + b.size := by simp
theorem app_em (a : ByteArray) : a ++ emB = a := by apply ba_ext; simp [emB]
theorem app_asc (a b c : ByteArray) : a ++ b ++ c = a ++ (b ++ c) := by apply ba_ext; simp
theorem emp_em {s : ByteArray} (h : isEmp s = true) : s = emB := by
  unfold isEmp at h
  have h := of_decide_eq_true h
  apply ba_ext
  exact List.eq_nil_of_length_eq_zero h
theorem cut_no {s : ByteArray} {c : Int} (h : (cutI s c).2.2 = false) : (cutI s c).1 = s ∧ (cutI s c).2.1 = emB := by
  unfold cutI at h ⊢
  cases hf : fstL (numsOf s) c with
  | none => exact ⟨rfl, rfl⟩
  | some i => rw [hf] at h; cases h
theorem cut_yes {s : ByteArray} {b : UInt8} (h : (cutI s (b.toNat : Int)).2.2 = true) : (cutI s (b.toNat : Int)).1 ++ ⟨#[b]⟩ ++ (cutI s (b.toNat : Int)).2.1 = s := by
  unfold cutI at h ⊢
  cases hf : fstL (numsOf s) (b.toNat : Int) with
  | none => rw [hf] at h; cases h
  | some i =>
    obtain ⟨h1, -⟩ := fstL_some hf
    have hi := (List.getElem?_eq_some_iff.1 h1).1
    rw [numsOf_length] at hi
    have hl : i < s.data.toList.length := hi
    rw [numsOf_get s i hi] at h1
    simp only [Option.some.injEq] at h1
    have hb : s.data.toList[i] = b := by
      rw [← UInt8.toNat_inj]
      have : ((s[i]'hi).toNat : Int) = b.toNat := h1
      have e : s.data.toList[i] = s[i]'hi := rfl
      rw [e]
      omega
    apply ba_ext
    simp only [data_app]
    have e1 : (s.extract 0 i).data.toList = s.data.toList.take i := by simp [ByteArray.data_extract]
    have e2 : (s.extract (i + 1) s.size).data.toList = s.data.toList.drop (i + 1) := by
      simp [ByteArray.data_extract]
      exact List.take_of_length_le (by rw [List.length_drop]; exact Nat.le_refl _)
    rw [e1, e2]
    show s.data.toList.take i ++ [b] ++ s.data.toList.drop (i + 1) = _
    rw [← hb, List.append_assoc, List.singleton_append, ← List.drop_eq_getElem_cons hl, List.take_append_drop]
theorem size_ne {a b : ByteArray} (h : a.size ≠ b.size) : eqS a b = false := by
  unfold eqS
  rw [beq_eq_false_iff_ne]
  intro e
  exact h (by rw [bytes_eq e])
theorem eqS_self (a : ByteArray) : eqS a a = true := by unfold eqS; exact beq_self_eq_true _
theorem emp_size {s : ByteArray} (h : isEmp s = true) : s.size = 0 := of_decide_eq_true h
theorem parse_law (s : ByteArray) : eqS (textJ (readJ s)) (wantJ s) = !(hasL s && isEmp (readJ s).loc || hasR s && isEmp (readJ s).res) := by
  have hres : (readJ s).res = (cutI s 47).2.1 := by unfold readJ; split <;> rfl
  have h64 : (((64 : UInt8).toNat : Nat) : Int) = 64 := rfl
  have s64 : ((⟨#[64]⟩ : ByteArray)).size = 1 := rfl
  have s47 : ((⟨#[47]⟩ : ByteArray)).size = 1 := rfl
  have sem : emB.size = 0 := rfl
  have hhead : (hasL s = false ∧ (readJ s).loc = emB ∧ (readJ s).dom = lowI (cutI s 47).1) ∨ (hasL s = true ∧ (readJ s).loc ++ (⟨#[64]⟩ : ByteArray) ++ (readJ s).dom = lowI (cutI s 47).1) := by
    cases h : hasL s with
    | false =>
      left
      unfold hasL at h
      unfold readJ
      rw [h]
      exact ⟨rfl, rfl, rfl⟩
    | true =>
      right
      unfold hasL at h
      unfold readJ
      rw [h]
      refine ⟨rfl, ?_⟩
      rw [← h64] at h ⊢
      exact cut_yes h
  have htail : hasR s = false → (readJ s).res = emB := fun h => by rw [hres]; exact (cut_no h).2
  unfold textJ wantJ
  generalize readJ s = j at *
  obtain ⟨l, d, r⟩ := j
  dsimp only at *
  generalize lowI (cutI s 47).1 = L at *
  clear hres
  have key : ∀ (H : ByteArray), (H = L ∧ isEmp l = (isEmp l) ∧ (hasL s && isEmp l) = false) ∨ (H.size + 1 = L.size ∧ (hasL s && isEmp l) = true) →
      eqS (H ++ (if isEmp r then emB else (⟨#[47]⟩ : ByteArray) ++ r)) (if hasR s then L ++ (⟨#[47]⟩ : ByteArray) ++ r else L) = !(hasL s && isEmp l || hasR s && isEmp r) := by
    rintro H (⟨rfl, -, hl⟩ | ⟨hsz, hl⟩)
    · rw [hl]
      cases hr : hasR s with
      | false =>
        have := htail hr
        subst this
        rw [if_pos (show isEmp emB = true from rfl), app_em]
        simp only [Bool.false_eq_true, if_false, Bool.false_and, Bool.or_false, Bool.not_false]
        exact eqS_self _
      | true =>
        cases he : isEmp r with
        | true =>
          have hz := emp_size he
          simp only [if_true, Bool.and_true, Bool.or_true, Bool.not_true]
          apply size_ne
          rw [app_size, app_size, app_size, sem, s47, hz]
          omega
        | false =>
          simp only [if_true, Bool.false_eq_true, if_false, Bool.and_false, Bool.or_false, Bool.not_false]
          rw [app_asc]
          exact eqS_self _
    · rw [hl]
      simp only [Bool.true_or, Bool.not_true]
      apply size_ne
      cases hr : hasR s with
      | false =>
        have := htail hr
        subst this
        rw [if_pos (show isEmp emB = true from rfl), app_em]
        simp only [Bool.false_eq_true, if_false]
        omega
      | true =>
        cases he : isEmp r with
        | true =>
          have hz := emp_size he
          simp only [if_true]
          rw [app_size, app_size, app_size, sem, s47, hz]
          omega
        | false =>
          simp only [if_true, Bool.false_eq_true, if_false]
          rw [app_size, app_size, app_size, app_size, s47]
          omega
  rcases hhead with ⟨h1, h2, h3⟩ | ⟨h1, h2⟩
  · subst h2 h3
    rw [if_pos (show isEmp emB = true from rfl)]
    exact key _ (.inl ⟨rfl, rfl, by rw [h1]; rfl⟩)
  · cases he : isEmp l with
    | true =>
      have hz := emp_size he
      rw [if_pos rfl]
      have k := key d (.inr ⟨by rw [← h2, app_size, app_size, s64, hz]; omega, by rw [h1, he]; rfl⟩)
      rw [he] at k
      exact k
    | false =>
      rw [if_neg (by decide)]
      have k := key _ (.inl ⟨h2, rfl, by rw [h1, he]; rfl⟩)
      rw [he] at k
      exact k
end Go.Proofs.YtnmnpnofdgdigaaGreatDoor
end
section
/- Plain law of stanzas (layer 22). No program here. -/
namespace Go.Proofs.YtnmnpnofdgdigaaGreatDoor
structure StL where
  kind : Int
  typ : ByteArray
  id : ByteArray
  frm : ByteArray
  to : ByteArray
  load : List (List NodeL)
def isAttr (name : ByteArray) (a : AttrL) : Bool := a.space.toList.isEmpty && (a.name.toList == name.toList)
def valAt (l : List AttrL) (o : Option Nat) : ByteArray := match o with
  | some i => match l[i]? with
    | some a => a.value
    | none => emB
  | none => emB
def findI (n : NodeL) (name : ByteArray) : ByteArray := valAt n.attrs (fstP (isAttr name) n.attrs)
def blankB (c : Nat) : Bool := decide (c = 32 ∨ c = 9 ∨ c = 10 ∨ c = 13)
def blankL : List UInt8 := [32, 9, 10, 13]
def blankI (s : ByteArray) : Bool := setAll blankL s
/-- the elements right within a tree's first one -/
def nodeAt (v : List NodeL) (k : Nat) : NodeL := v.getD k default
def elemsK (v : List NodeL) (l : List Nat) : List (List NodeL) := (l.filter fun k => decide ((nodeAt v k).kind = 1)).map (partI v)
def blanksK (v : List NodeL) (l : List Nat) : Bool := l.all fun k => decide ((nodeAt v k).kind = 1) || blankI (nodeAt v k).text
def elemsI (v : List NodeL) : List (List NodeL) := elemsK v (kidsI v 0)
def blanksI (v : List NodeL) : Bool := blanksK v (kidsI v 0)
theorem elemsK_succ (v : List NodeL) (l : List Nat) (k : Nat) : elemsK v (l ++ [k]) = if (nodeAt v k).kind = 1 then elemsK v l ++ [partI v k] else elemsK v l := by
  unfold elemsK
  rw [List.filter_append, List.map_append]
  by_cases h : (nodeAt v k).kind = 1 <;> simp [h]
theorem blanksK_succ (v : List NodeL) (l : List Nat) (k : Nat) : blanksK v (l ++ [k]) = (blanksK v l && (decide ((nodeAt v k).kind = 1) || blankI (nodeAt v k).text)) := by
  unfold blanksK
  rw [List.all_append]
  simp
def kindNames : List ByteArray := [(⟨#[]⟩ : ByteArray), (⟨#[109, 101, 115, 115, 97, 103, 101]⟩ : ByteArray), (⟨#[112, 114, 101, 115, 101, 110, 99, 101]⟩ : ByteArray), (⟨#[105, 113]⟩ : ByteArray)]
def msgTypes : List ByteArray := [(⟨#[]⟩ : ByteArray), (⟨#[99, 104, 97, 116]⟩ : ByteArray), (⟨#[101, 114, 114, 111, 114]⟩ : ByteArray), (⟨#[103, 114, 111, 117, 112, 99, 104, 97, 116]⟩ : ByteArray), (⟨#[104, 101, 97, 100, 108, 105, 110, 101]⟩ : ByteArray), (⟨#[110, 111, 114, 109, 97, 108]⟩ : ByteArray)]
def preTypes : List ByteArray := [(⟨#[]⟩ : ByteArray), (⟨#[117, 110, 97, 118, 97, 105, 108, 97, 98, 108, 101]⟩ : ByteArray), (⟨#[115, 117, 98, 115, 99, 114, 105, 98, 101]⟩ : ByteArray), (⟨#[115, 117, 98, 115, 99, 114, 105, 98, 101, 100]⟩ : ByteArray), (⟨#[117, 110, 115, 117, 98, 115, 99, 114, 105, 98, 101]⟩ : ByteArray), (⟨#[117, 110, 115, 117, 98, 115, 99, 114, 105, 98, 101, 100]⟩ : ByteArray), (⟨#[112, 114, 111, 98, 101]⟩ : ByteArray), (⟨#[101, 114, 114, 111, 114]⟩ : ByteArray)]
def iqTypes : List ByteArray := [(⟨#[103, 101, 116]⟩ : ByteArray), (⟨#[115, 101, 116]⟩ : ByteArray), (⟨#[114, 101, 115, 117, 108, 116]⟩ : ByteArray), (⟨#[101, 114, 114, 111, 114]⟩ : ByteArray)]
def typesOf (k : Int) : List ByteArray := if k = 1 then msgTypes else if k = 2 then preTypes else if k = 3 then iqTypes else []
def hasS (l : List ByteArray) (s : ByteArray) : Bool := l.any fun x => x.toList == s.toList
def typedI (k : Int) (s : ByteArray) : Bool := hasS (typesOf k) s
end Go.Proofs.YtnmnpnofdgdigaaGreatDoor
end
section
/- Nodes and attributes in memory: what a slice of them reads as; an argument opened. -/
namespace Go.Proofs.YtnmnpnofdgdigaaGreatDoor
open Go.RowKit Go.ChangeShapes Go.WideShapes Go.Deep
/-- an attribute's three cells -/
def AtAt (w : World) (b o : Nat) (a : AttrL) : Prop := w.cell? ⟨b, o, none⟩ = some (.string a.space) ∧ w.cell? ⟨b, o + 1, none⟩ = some (.string a.name) ∧ w.cell? ⟨b, o + 2, none⟩ = some (.string a.value)
def RdA (w : World) (B : Nat) (A : Option Addr) (l : List AttrL) : Prop := 0 < l.length → ∃ b off, A = some ⟨b, off, none⟩ ∧ b < B ∧ ∀ i a, l[i]? = some a → AtAt w b (off + i * 3) a
/-- a node's six cells, its attributes read -/
def NdAt (w : World) (B b o : Nat) (n : NodeL) : Prop :=
  w.cell? ⟨b, o, none⟩ = some (.int .u8 n.kind) ∧ w.cell? ⟨b, o + 1, none⟩ = some (.string n.space) ∧ w.cell? ⟨b, o + 2, none⟩ = some (.string n.name) ∧
  (∃ A c, w.cell? ⟨b, o + 3, none⟩ = some (.slice A n.attrs.length c) ∧ n.attrs.length ≤ c ∧ RdA w B A n.attrs) ∧ w.cell? ⟨b, o + 4, none⟩ = some (.string n.text) ∧ w.cell? ⟨b, o + 5, none⟩ = some (.int .i64 n.many)
def RdV (w : World) (B : Nat) (A : Option Addr) (v : List NodeL) : Prop := 0 < v.length → ∃ b off, A = some ⟨b, off, none⟩ ∧ b < B ∧ ∀ i n, v[i]? = some n → NdAt w B b (off + i * 6) n
section
variable {w w' : World} {B B' : Nat} {A : Option Addr}
theorem AtAt.keep {b o : Nat} {a : AttrL} (h : AtAt w b o a) (hb : b < B) (hk : ∀ p : Addr, p.block < B → w'.cell? p = w.cell? p) : AtAt w' b o a :=
  ⟨(hk _ hb).trans h.1, (hk _ hb).trans h.2.1, (hk _ hb).trans h.2.2⟩
theorem RdA.keep {l : List AttrL} (h : RdA w B A l) (hk : ∀ p : Addr, p.block < B → w'.cell? p = w.cell? p) : RdA w' B A l := fun h0 => by
  obtain ⟨b, off, e, hb, hc⟩ := h h0
  exact ⟨b, off, e, hb, fun i a hi => (hc i a hi).keep hb hk⟩
theorem RdA.more {l : List AttrL} (h : RdA w B A l) (hB : B ≤ B') : RdA w B' A l := fun h0 => by
  obtain ⟨b, off, e, hb, hc⟩ := h h0
  exact ⟨b, off, e, by omega, hc⟩
theorem RdA.below {C : Nat} {l : List AttrL} (h : RdA w B A l) (hb : Below C w w') (hC : B ≤ C) : RdA w' B A l := h.keep fun _ hp => hb.cell (by omega)
theorem NdAt.keep {b o : Nat} {n : NodeL} (h : NdAt w B b o n) (hb : b < B) (hk : ∀ p : Addr, p.block < B → w'.cell? p = w.cell? p) : NdAt w' B b o n := by
  obtain ⟨h0, h1, h2, ⟨A, c, h3, hl, hA⟩, h4, h5⟩ := h
  exact ⟨(hk _ hb).trans h0, (hk _ hb).trans h1, (hk _ hb).trans h2, ⟨A, c, (hk _ hb).trans h3, hl, hA.keep hk⟩, (hk _ hb).trans h4, (hk _ hb).trans h5⟩
theorem NdAt.more {b o : Nat} {n : NodeL} (h : NdAt w B b o n) (hB : B ≤ B') : NdAt w B' b o n := by
  obtain ⟨h0, h1, h2, ⟨A, c, h3, hl, hA⟩, h4, h5⟩ := h
  exact ⟨h0, h1, h2, ⟨A, c, h3, hl, hA.more hB⟩, h4, h5⟩
theorem RdV.keep {v : List NodeL} (h : RdV w B A v) (hk : ∀ p : Addr, p.block < B → w'.cell? p = w.cell? p) : RdV w' B A v := fun h0 => by
  obtain ⟨b, off, e, hb, hc⟩ := h h0
  exact ⟨b, off, e, hb, fun i n hi => (hc i n hi).keep hb hk⟩
theorem RdV.more {v : List NodeL} (h : RdV w B A v) (hB : B ≤ B') : RdV w B' A v := fun h0 => by
  obtain ⟨b, off, e, hb, hc⟩ := h h0
  exact ⟨b, off, e, by omega, fun i n hi => (hc i n hi).more hB⟩
theorem RdV.below {C : Nat} {v : List NodeL} (h : RdV w B A v) (hb : Below C w w') (hC : B ≤ C) : RdV w' B A v := h.keep fun _ hp => hb.cell (by omega)
end
/-! ### sizes -/
def SzA (M : Nat) (a : AttrL) : Prop := a.space.size ≤ M ∧ a.name.size ≤ M ∧ a.value.size ≤ M
def SzN (M : Nat) (n : NodeL) : Prop := (0 ≤ n.kind ∧ n.kind < 256) ∧ n.space.size ≤ M ∧ n.name.size ≤ M ∧ (n.attrs.length ≤ M ∧ ∀ a ∈ n.attrs, SzA M a) ∧ n.text.size ≤ M ∧ (-9223372036854775808 ≤ n.many ∧ n.many ≤ 9223372036854775807)
def SzV (M : Nat) (v : List NodeL) : Prop := v.length ≤ M ∧ ∀ n ∈ v, SzN M n
/-! ### an argument opened -/
theorem list_of {α : Type} {P : Nat → α → Prop} : ∀ n : Nat, (∀ i, i < n → ∃ x, P i x) → ∃ l : List α, l.length = n ∧ ∀ i x, l[i]? = some x → P i x
  | 0, _ => ⟨[], rfl, by simp⟩
  | n + 1, h => by
    obtain ⟨l, hl, hp⟩ := list_of n fun i hi => h i (by omega)
    obtain ⟨x, hx⟩ := h n (by omega)
    refine ⟨l ++ [x], by simp [hl], fun i y hi => ?_⟩
    rcases Nat.lt_or_ge i l.length with h1 | h1
    · rw [List.getElem?_append_left h1] at hi
      exact hp i y hi
    · rw [List.getElem?_append_right h1] at hi
      rcases Nat.eq_zero_or_pos (i - l.length) with h0 | h0
      · rw [h0] at hi
        simp only [List.getElem?_cons_zero, Option.some.injEq] at hi
        subst hi
        obtain rfl : i = n := by omega
        exact hx
      · rw [List.getElem?_eq_none (by simp; omega)] at hi
        cases hi
theorem addr_of {W : World} {a : Addr} {v : Value} (h : W.cell? (a.add 0) = some v) : ∃ b off, a = ⟨b, off, none⟩ ∧ b < W.heap.size := by
  have hb := World.block_lt_of_cell? W _ h
  rw [block_of_add] at hb
  obtain ⟨b, off, spot⟩ := a
  have hspot : spot = none := by
    simpa [Addr.add] using World.cell?_spot h
  subst hspot
  exact ⟨b, off, rfl, hb⟩
section
variable {H : Type} {enc : TypeId × Value → H} {W : World} {base : Nat} {spare : Nat → Bool} {held : Bool}
/-- a slice of structs of one-cell fields: each element's cells -/
theorem open_fields {t e : TypeId} {fs : Array Field} {fuel : Nat} {cs : List Value} {x : DataW H × List MemPlace} (ht : Tryz.prog.underlying t = some (.slice e)) (he : Tryz.prog.underlying e = some (.struct fs))
    (hone : oneCellFields Tryz.prog fs = true) (hC : Tryz.prog.cellsOf e = fs.size) (h : DataW.trod enc Tryz.prog W base spare held fuel t cs = some x) :
    cs = [.slice none 0 0] ∨
    ∃ (a : Addr) (len cap : Nat), cs = [.slice (some a) len cap] ∧ len ≤ cap ∧ cap ≤ maxLen ∧
      ∀ i, i < len → ∃ n : Nat, ∀ (j : Nat) (f : Field), fs[j]? = some f → ∃ (v : Value) (y : DataW H × List MemPlace), W.cell? (a.add (i * fs.size + j)) = some v ∧ DataW.trod enc Tryz.prog W base spare held n f.type [v] = some y := by
  rcases open_slice ht h with h0 | ⟨a, len, cap, m, n, D, Pl, hcs, hb, hl, hm, hmm, hx, hi⟩
  · exact .inl h0.1
  · refine .inr ⟨a, len, cap, hcs, hl, hm, fun i him => ?_⟩
    have him' : i < m := by rw [hmm]; split <;> omega
    obtain ⟨cs', hc, ht'⟩ := hi i him'
    rw [hC] at hc
    obtain ⟨ys, n', hn', hy, hlen, hyl, hf⟩ := DataW.trod_struct he ht'
    obtain ⟨_, hcl, hat⟩ := World.cells?_some hc
    refine ⟨n', fun j f hj => ?_⟩
    obtain ⟨ho, hk⟩ := hone_of hone j f hj
    have hjl : j < fs.size := (Array.getElem?_eq_some_iff.1 hj).1
    have hcell := hat j hjl
    have hv : cs'[j]? = some (cs'[j]'(by omega)) := List.getElem?_eq_getElem (by omega)
    have h1 := hf j f hj
    rw [ho, hk] at h1
    have hone' : (cs'.drop j).take 1 = [cs'[j]'(by omega)] := by
      rw [List.drop_eq_getElem_cons (by omega)]
      rfl
    rw [hone'] at h1
    have hys : ys[j]? = some (ys[j]'(by omega)) := List.getElem?_eq_getElem (by omega)
    refine ⟨_, _, ?_, h1.trans hys⟩
    rw [← Go.Deep.add_add, hcell, hv]
theorem open_attrs {fuel : Nat} {cs : List Value} {x : DataW H × List MemPlace} (h : DataW.trod enc Tryz.prog W base spare held fuel 34 cs = some x) :
    ∃ (A : Option Addr) (l : List AttrL) (c : Nat), cs = [.slice A l.length c] ∧ l.length ≤ c ∧ RdA W W.heap.size A l ∧ l.length ≤ maxLen ∧ ∀ a ∈ l, SzA maxLen a := by
  rcases open_fields Tryz.underlying34 Tryz.underlying75 (by kernel_rfl) (by kernel_rfl) h with rfl | ⟨a, len, cap, rfl, hl, hm, hi⟩
  · exact ⟨none, [], 0, rfl, Nat.le_refl _, fun h => absurd h (by simp), by simp, by simp⟩
  · obtain ⟨l, rfl, hp⟩ := list_of (P := fun i (x : AttrL) => (W.cell? (a.add (i * 3)) = some (.string x.space) ∧ W.cell? (a.add (i * 3 + 1)) = some (.string x.name) ∧ W.cell? (a.add (i * 3 + 2)) = some (.string x.value)) ∧ SzA maxLen x) len fun i hil => by
      obtain ⟨n, hf⟩ := hi i hil
      obtain ⟨v0, y0, c0, t0⟩ := hf 0 _ rfl
      obtain ⟨v1, y1, c1, t1⟩ := hf 1 _ rfl
      obtain ⟨v2, y2, c2, t2⟩ := hf 2 _ rfl
      obtain ⟨s0, e0, _, z0⟩ := DataW.trod_string Tryz.underlying9 t0
      obtain ⟨s1, e1, _, z1⟩ := DataW.trod_string Tryz.underlying9 t1
      obtain ⟨s2, e2, _, z2⟩ := DataW.trod_string Tryz.underlying9 t2
      simp only [List.cons.injEq, and_true] at e0 e1 e2
      subst e0 e1 e2
      exact ⟨⟨s0, s1, s2⟩, ⟨c0, c1, c2⟩, z0, z1, z2⟩
    refine ⟨some a, l, cap, rfl, hl, fun h0 => ?_, by omega, fun x hx => ?_⟩
    · obtain ⟨b, off, rfl, hb⟩ := addr_of (by simpa using (hp 0 l[0] (List.getElem?_eq_getElem h0)).1.1)
      refine ⟨b, off, rfl, hb, fun i x hx => ?_⟩
      have := (hp i x hx).1
      simp only [AtAt, NdAt, Nat.add_assoc]
      simpa only [add_mk, Nat.add_assoc] using this
    · obtain ⟨i, hi, rfl⟩ := List.mem_iff_getElem.1 hx
      exact (hp i _ (List.getElem?_eq_getElem hi)).2
theorem open_nodes {fuel : Nat} {cs : List Value} {x : DataW H × List MemPlace} (h : DataW.trod enc Tryz.prog W base spare held fuel 22 cs = some x) :
    ∃ (A : Option Addr) (v : List NodeL) (c : Nat), cs = [.slice A v.length c] ∧ v.length ≤ c ∧ RdV W W.heap.size A v ∧ SzV maxLen v := by
  rcases open_fields Tryz.underlying22 Tryz.underlying36 (by kernel_rfl) (by kernel_rfl) h with rfl | ⟨a, len, cap, rfl, hl, hm, hi⟩
  · exact ⟨none, [], 0, rfl, Nat.le_refl _, fun h => absurd h (by simp), by simp, by simp⟩
  · obtain ⟨l, rfl, hp⟩ := list_of (P := fun i (x : NodeL) => (W.cell? (a.add (i * 6)) = some (.int .u8 x.kind) ∧ W.cell? (a.add (i * 6 + 1)) = some (.string x.space) ∧ W.cell? (a.add (i * 6 + 2)) = some (.string x.name) ∧
        (∃ A c, W.cell? (a.add (i * 6 + 3)) = some (.slice A x.attrs.length c) ∧ x.attrs.length ≤ c ∧ RdA W W.heap.size A x.attrs) ∧ W.cell? (a.add (i * 6 + 4)) = some (.string x.text) ∧ W.cell? (a.add (i * 6 + 5)) = some (.int .i64 x.many)) ∧ SzN maxLen x) len fun i hil => by
      obtain ⟨n, hf⟩ := hi i hil
      obtain ⟨v0, y0, c0, t0⟩ := hf 0 _ rfl
      obtain ⟨v1, y1, c1, t1⟩ := hf 1 _ rfl
      obtain ⟨v2, y2, c2, t2⟩ := hf 2 _ rfl
      obtain ⟨v3, y3, c3, t3⟩ := hf 3 _ rfl
      obtain ⟨v4, y4, c4, t4⟩ := hf 4 _ rfl
      obtain ⟨v5, y5, c5, t5⟩ := hf 5 _ rfl
      obtain ⟨s0, e0, _, z0⟩ := DataW.trod_int Tryz.underlying5 t0
      obtain ⟨s1, e1, _, z1⟩ := DataW.trod_string Tryz.underlying9 t1
      obtain ⟨s2, e2, _, z2⟩ := DataW.trod_string Tryz.underlying9 t2
      obtain ⟨A3, l3, k3, e3, hl3, hr3, hm3, z3⟩ := open_attrs t3
      obtain ⟨s4, e4, _, z4⟩ := DataW.trod_string Tryz.underlying9 t4
      obtain ⟨s5, e5, _, z5⟩ := DataW.trod_int Tryz.underlying3 t5
      simp only [List.cons.injEq, and_true] at e0 e1 e2 e3 e4 e5
      subst e0 e1 e2 e3 e4 e5
      exact ⟨⟨s0, s1, s2, l3, s4, s5⟩, ⟨c0, c1, c2, ⟨A3, k3, c3, hl3, hr3⟩, c4, c5⟩, wf_u8 z0, z1, z2, ⟨hm3, z3⟩, z4, wf_i64 z5⟩
    refine ⟨some a, l, cap, rfl, hl, fun h0 => ?_, by omega, fun x hx => ?_⟩
    · obtain ⟨b, off, rfl, hb⟩ := addr_of (by simpa using (hp 0 l[0] (List.getElem?_eq_getElem h0)).1.1)
      refine ⟨b, off, rfl, hb, fun i x hx => ?_⟩
      have := (hp i x hx).1
      simp only [AtAt, NdAt, Nat.add_assoc]
      simpa only [add_mk, Nat.add_assoc] using this
    · obtain ⟨i, hi, rfl⟩ := List.mem_iff_getElem.1 hx
      exact (hp i _ (List.getElem?_eq_getElem hi)).2
end
/-! ### a step on -/
theorem ext_step {B : Nat} {a b c d : World} (h : Below B a b) (k : Below b.heap.size b c) (m : Below c.heap.size c d) (hB : B ≤ b.heap.size) : Below B a d :=
  (h.trans (k.mono hB)).trans (m.mono (Nat.le_trans hB k.size))
end Go.Proofs.YtnmnpnofdgdigaaGreatDoor
end
