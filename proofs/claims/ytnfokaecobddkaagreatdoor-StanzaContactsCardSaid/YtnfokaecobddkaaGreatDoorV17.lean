/- Part 17 of a proof laid in parts, one behind the other; no condition of its own. -/
import Derived.Test.YtnfokaecobddkaaGreatDoorV16
set_option linter.all false
section
namespace Go.Proofs.YtnfokaecobddkaaGreatDoor
open Go.RowKit
set_option linter.unusedSimpArgs false
set_option linter.unusedVariables false
def AskP (s:StL) (w:World) (e:Ending) (w':World):Prop:=
 ∃A c,e=.returned (.tuple #[encW (askR s) A c,.int .i64 (askE s)])∧(askR s).groups.length≤c∧RdSB w.heap.size w' A (askR s).groups∧Below w.heap.size w w'
theorem AskP.err {s:StL} {w w':World} {e:Int} (he:askE s=e) (h0:e≠0) (h:Below w.heap.size w w'):AskP s w (.returned (.tuple #[encW emW none 0,.int .i64 e])) w':=by
 unfold AskP askR
 rw [he,if_neg h0]
 exact⟨none,0,rfl,Nat.le_refl _,fun h0=>absurd h0 (by decide),h⟩
theorem AskP.ok {s:StL} {w w':World} {A:Option Addr} {c:Nat} (he:askE s=0) (hl:(askW s).groups.length≤c) (hr:RdSB w.heap.size w' A (askW s).groups) (h:Below w.heap.size w w'):AskP s w (.returned (.tuple #[encW (askW s) A c,.int .i64 0])) w':=by
 unfold AskP askR
 rw [he,if_pos rfl]
 exact⟨A,c,rfl,hl,hr,h⟩
end Go.Proofs.YtnfokaecobddkaaGreatDoor
end
