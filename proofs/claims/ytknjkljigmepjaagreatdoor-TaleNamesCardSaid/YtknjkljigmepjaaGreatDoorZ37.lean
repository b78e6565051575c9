/- Part 37 of a proof laid in parts, one behind the other; no condition of its own. -/
import Derived.Test.YtknjkljigmepjaaGreatDoorZ36
set_option linter.all false
section
namespace Go.Proofs.YtknjkljigmepjaaGreatDoor.taleNamesDone
open Go
set_option linter.unusedVariables false
abbrev tlist : List (String × DataW Unit) := [("math/bits.deBruijn32tab", Rows.laid_math_bits_deBruijn32tab), ("math/bits.deBruijn64tab", Rows.laid_math_bits_deBruijn64tab), ("internal/strconv.uint64pow10", Rows.laid_internal_strconv_uint64pow10), ("unicode/utf8.acceptRanges", Rows.laid_unicode_utf8_acceptRanges), ("errors.errorType", Rows.laid_errors_errorType), ("strconv.ErrRange", Rows.laid_strconv_ErrRange), ("strconv.ErrSyntax", Rows.laid_strconv_ErrSyntax)]
theorem t1 : Tryz.prog.worded (varsWordLater true) = true := by kernel_rfl
theorem t2 : Tryz.prog.worded (varsWordLater !true) = false := by kernel_rfl
theorem t3 : Tryz.prog.worded rootWordLater = true := by kernel_rfl
theorem kb0 : Tryz.prog.kindBase "math/bits.deBruijn32tab" = some .data := by kernel_rfl
theorem kb1 : Tryz.prog.kindBase "math/bits.deBruijn64tab" = some .data := by kernel_rfl
theorem kb2 : Tryz.prog.kindBase "internal/strconv.uint64pow10" = some .data := by kernel_rfl
theorem kb3 : Tryz.prog.kindBase "unicode/utf8.acceptRanges" = some .data := by kernel_rfl
theorem kb4 : Tryz.prog.kindBase "errors.errorType" = some .handle := by kernel_rfl
theorem kb5 : Tryz.prog.kindBase "strconv.ErrRange" = some .sentinel := by kernel_rfl
theorem kb6 : Tryz.prog.kindBase "strconv.ErrSyntax" = some .sentinel := by kernel_rfl
theorem ko0 : Tryz.prog.kindOfLater "math/bits.deBruijn32tab" = some .data := by
  unfold Program.kindOfLater
  rw [kb0]
theorem ko1 : Tryz.prog.kindOfLater "math/bits.deBruijn64tab" = some .data := by
  unfold Program.kindOfLater
  rw [kb1]
theorem ko2 : Tryz.prog.kindOfLater "internal/strconv.uint64pow10" = some .data := by
  unfold Program.kindOfLater
  rw [kb2]
theorem ko3 : Tryz.prog.kindOfLater "unicode/utf8.acceptRanges" = some .data := by
  unfold Program.kindOfLater
  rw [kb3]
theorem ko4 : Tryz.prog.kindOfLater "errors.errorType" = some .handle := by
  unfold Program.kindOfLater
  rw [kb4]
theorem ko5 : Tryz.prog.kindOfLater "strconv.ErrRange" = some .sentinel := by
  unfold Program.kindOfLater
  rw [kb5]
theorem ko6 : Tryz.prog.kindOfLater "strconv.ErrSyntax" = some .sentinel := by
  unfold Program.kindOfLater
  rw [kb6]
theorem t4 : tlist.map (fun x => Tryz.prog.kindOfLater x.1) = [LaidKind.data, .data, .data, .data, .handle, .sentinel, .sentinel].map some := by
  simp only [tlist, List.map_cons, List.map_nil, ko0, ko1, ko2, ko3, ko4, ko5, ko6]
theorem t5 : (Tryz.prog.funcNamed "gosem.cut.vars").isSome = true := by
  rw [nv_is]
  rfl
def kbL : String → Option LaidKind := fun s => ([("math/bits.deBruijn32tab", .data), ("math/bits.deBruijn64tab", .data), ("internal/strconv.uint64pow10", .data), ("unicode/utf8.acceptRanges", .data), ("errors.errorType", .handle), ("strconv.ErrRange", .sentinel), ("strconv.ErrSyntax", .sentinel)] : List (String × LaidKind)).lookup s
theorem kb_is : ∀ x ∈ tlist, Tryz.prog.kindBase x.1 = kbL x.1 := fun x hx => by
  simp only [tlist, List.mem_cons, List.mem_nil_iff, or_false] at hx
  rcases hx with rfl | rfl | rfl | rfl | rfl | rfl | rfl
  · exact kb0.trans (by kernel_rfl)
  · exact kb1.trans (by kernel_rfl)
  · exact kb2.trans (by kernel_rfl)
  · exact kb3.trans (by kernel_rfl)
  · exact kb4.trans (by kernel_rfl)
  · exact kb5.trans (by kernel_rfl)
  · exact kb6.trans (by kernel_rfl)
def namedK (P : Program) (kb : String → Option LaidKind) (g : FuncId) (laid : List (String × DataW Unit)) : Bool :=
  match (P.funcs[g]?).bind (·.body) with
  | some code =>
    match code.laysInOrder [] with
    | some stored => stored.eraseDups.length == stored.length && P.callsLaidAlone g code &&
        laid.all fun x => (P.globalNamed x.1).any fun v => (stored.contains v == (kb x.1 != some .zero)) && callsFit code v (kb x.1) &&
          ((code.storedByHandle P).contains v == (kb x.1 == some .handle)) && (x.2.handleName?.isSome == (kb x.1 == some .handle || kb x.1 == some .funcs)) &&
          (kb x.1 != some .handle || handlePair x) && (x.2.funcsIn?.isSome == (kb x.1 == some .funcs)) && mapsFit code v x.2 (kb x.1)
    | none => false
  | none => false
theorem all_same {α : Type} {f g : α → Bool} : ∀ {l : List α}, (∀ x ∈ l, f x = g x) → l.all f = l.all g
  | [], _ => rfl
  | a :: l, h => by
    rw [List.all_cons, List.all_cons, h a (List.mem_cons_self ..), all_same (fun x hx => h x (List.mem_cons_of_mem _ hx))]
theorem namedK_is {P : Program} {kb : String → Option LaidKind} {g : FuncId} {laid : List (String × DataW Unit)} (h : ∀ x ∈ laid, P.kindBase x.1 = kb x.1) : varsNamedLaterB P g laid = namedK P kb g laid := by
  unfold varsNamedLaterB namedK
  cases (P.funcs[g]?).bind (·.body) with
  | none => rfl
  | some code =>
    dsimp only
    cases code.laysInOrder [] with
    | none => rfl
    | some stored =>
      dsimp only
      congr 1
      exact all_same fun x hx => by rw [h x hx]
theorem t6 : varsNamedLaterB Tryz.prog (varsId Tryz.prog) tlist = true := by
  rw [namedK_is kb_is, vid]
  unfold namedK Program.callsLaidAlone
  rw [ne_is]
  kernel_rfl
end Go.Proofs.YtknjkljigmepjaaGreatDoor.taleNamesDone
end
