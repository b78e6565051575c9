import Derived.Test.YtnfokaecobddkaaGreatDoorZ11
import Derived.Test.YtnfokaecobddkaaGreatDoorZ01
import Derived.WalkKit
import Derived.ProofKit
import Derived.OpenShut
import Derived.ChangeOld
import Derived.Below
import Derived.Deep.DeepHandedRow
import Derived.Deep.DeepWitnessRowRef
import Derived.SizedLaws
import Derived.LaidMore
import Derived.LaidOnce
import Derived.Stop.Joined
import Derived.Lib.LaidU8
import Derived.Shelf.LaysM
import Derived.Lib.DecodeN
import Derived.JoinedCond
import Derived.Test.YtnfokaecobddkaaGreatDoorCards
import Derived.Test.YtnfokaecobddkaaGreatDoorTie
import Derived.SevenTiedAt
set_option linter.all false
section
/- The closed run: known calls of tidewaiter/tidewaiterlaw22.alive. -/
namespace Go.Proofs.YtnfokaecobddkaaGreatDoor
open Go.Proofs.YtnfokaecobddkaaGreatDoor.Clo Go.RowKit
set_option maxRecDepth 100000
set_option maxHeartbeats 0
noncomputable def m12 : MTree := .node (.leaf) 1 (.nil) (.b true) (.leaf)
theorem k12 : m12.all (known tab11 100 7) = true := by kernel_rfl
noncomputable def g12 : Ent Tryz.prog 9 := e7.memo m12 (by kernel_rfl) Tryz.call7 k12
noncomputable def tab12 : FTree Tryz.prog 9 := .node (.node (.node (.node (.node (.node (.node (.node (.leaf) (e6) (.leaf)) (g12) (.node (.leaf) (e9) (.leaf))) (e10) (.node (.node (.leaf) (e11) (.leaf)) (e13) (.leaf))) (e16) (.node (.node (.node (.leaf) (e17) (.leaf)) (e18) (.leaf)) (e19) (.node (.node (.leaf) (g10) (.leaf)) (g11) (.leaf)))) (e22) (.node (.node (.node (.node (.leaf) (e23) (.leaf)) (e24) (.leaf)) (e25) (.node (.node (.leaf) (g3) (.leaf)) (e27) (.leaf))) (e28) (.node (.node (.node (.leaf) (e29) (.leaf)) (g2) (.leaf)) (e31) (.node (.node (.leaf) (e32) (.leaf)) (e33) (.leaf))))) (e34) (.node (.node (.node (.node (.node (.leaf) (g9) (.leaf)) (e36) (.leaf)) (e37) (.node (.node (.leaf) (e38) (.leaf)) (e39) (.leaf))) (e42) (.node (.node (.node (.leaf) (e44) (.leaf)) (e45) (.leaf)) (e46) (.node (.node (.leaf) (e47) (.leaf)) (e48) (.leaf)))) (g7) (.node (.node (.node (.node (.leaf) (e50) (.leaf)) (e51) (.leaf)) (e52) (.node (.node (.leaf) (e53) (.leaf)) (e54) (.leaf))) (e55) (.node (.node (.node (.leaf) (e56) (.leaf)) (e57) (.leaf)) (e58) (.node (.node (.leaf) (e59) (.leaf)) (e60) (.leaf)))))) (e61) (.node (.node (.node (.node (.node (.node (.leaf) (e62) (.leaf)) (e63) (.node (.leaf) (e64) (.leaf))) (e65) (.node (.node (.leaf) (e66) (.leaf)) (e67) (.leaf))) (e68) (.node (.node (.node (.leaf) (e69) (.leaf)) (e70) (.leaf)) (e71) (.node (.node (.leaf) (e72) (.leaf)) (e73) (.leaf)))) (e74) (.node (.node (.node (.node (.leaf) (e75) (.leaf)) (e76) (.leaf)) (e77) (.node (.node (.leaf) (g8) (.leaf)) (e79) (.leaf))) (e80) (.node (.node (.node (.leaf) (e81) (.leaf)) (e82) (.leaf)) (e83) (.node (.node (.leaf) (e84) (.leaf)) (e85) (.leaf))))) (e90) (.node (.node (.node (.node (.node (.leaf) (e92) (.leaf)) (e93) (.leaf)) (e94) (.node (.node (.leaf) (e95) (.leaf)) (e96) (.leaf))) (e97) (.node (.node (.node (.leaf) (e98) (.leaf)) (e99) (.leaf)) (e100) (.node (.node (.leaf) (e101) (.leaf)) (e102) (.leaf)))) (e103) (.node (.node (.node (.node (.leaf) (e104) (.leaf)) (e105) (.leaf)) (e106) (.node (.node (.leaf) (e107) (.leaf)) (e108) (.leaf))) (e109) (.node (.node (.node (.leaf) (e110) (.leaf)) (e111) (.leaf)) (e113) (.node (.node (.leaf) (e114) (.leaf)) (e115) (.leaf))))))) (e116) (.node (.node (.node (.node (.node (.node (.node (.leaf) (e117) (.leaf)) (e118) (.node (.leaf) (g4) (.leaf))) (e120) (.node (.node (.leaf) (e121) (.leaf)) (e122) (.leaf))) (g1) (.node (.node (.node (.leaf) (e125) (.leaf)) (e126) (.leaf)) (e127) (.node (.node (.leaf) (e128) (.leaf)) (e131) (.leaf)))) (e132) (.node (.node (.node (.node (.leaf) (e133) (.leaf)) (e139) (.leaf)) (e140) (.node (.node (.leaf) (e141) (.leaf)) (e142) (.leaf))) (e143) (.node (.node (.node (.leaf) (e144) (.leaf)) (e145) (.leaf)) (e146) (.node (.node (.leaf) (e147) (.leaf)) (e148) (.leaf))))) (e149) (.node (.node (.node (.node (.node (.leaf) (e150) (.leaf)) (e151) (.leaf)) (e152) (.node (.node (.leaf) (e157) (.leaf)) (e158) (.leaf))) (e159) (.node (.node (.node (.leaf) (e160) (.leaf)) (e161) (.leaf)) (e162) (.node (.node (.leaf) (e163) (.leaf)) (e164) (.leaf)))) (e165) (.node (.node (.node (.node (.leaf) (e166) (.leaf)) (e167) (.leaf)) (e168) (.node (.node (.leaf) (e169) (.leaf)) (e173) (.leaf))) (e174) (.node (.node (.node (.leaf) (e175) (.leaf)) (e176) (.leaf)) (e177) (.node (.node (.leaf) (e181) (.leaf)) (e182) (.leaf)))))) (e183) (.node (.node (.node (.node (.node (.node (.leaf) (e184) (.leaf)) (e185) (.leaf)) (e186) (.node (.node (.leaf) (e187) (.leaf)) (e188) (.leaf))) (e189) (.node (.node (.node (.leaf) (e190) (.leaf)) (e191) (.leaf)) (e192) (.node (.node (.leaf) (e193) (.leaf)) (e194) (.leaf)))) (e195) (.node (.node (.node (.node (.leaf) (e196) (.leaf)) (e197) (.leaf)) (e201) (.node (.node (.leaf) (e202) (.leaf)) (e203) (.leaf))) (e204) (.node (.node (.node (.leaf) (e205) (.leaf)) (e206) (.leaf)) (e208) (.node (.node (.leaf) (e212) (.leaf)) (e216) (.leaf))))) (e219) (.node (.node (.node (.node (.node (.leaf) (e220) (.leaf)) (e221) (.leaf)) (e222) (.node (.node (.leaf) (g5) (.leaf)) (e225) (.leaf))) (e226) (.node (.node (.node (.leaf) (e227) (.leaf)) (e228) (.leaf)) (e229) (.node (.node (.leaf) (e230) (.leaf)) (e231) (.leaf)))) (e232) (.node (.node (.node (.node (.leaf) (g6) (.leaf)) (e241) (.leaf)) (e242) (.node (.node (.leaf) (e243) (.leaf)) (e244) (.leaf))) (e246) (.node (.node (.node (.leaf) (e247) (.leaf)) (e251) (.leaf)) (e252) (.node (.node (.leaf) (e253) (.leaf)) (e261) (.leaf)))))))
end Go.Proofs.YtnfokaecobddkaaGreatDoor
end
section
/- The closed run of law22.StanzaNames. -/
namespace Go.Proofs.YtnfokaecobddkaaGreatDoor
open Go.Proofs.YtnfokaecobddkaaGreatDoor.Clo Go.RowKit
set_option maxRecDepth 100000
set_option maxHeartbeats 0
theorem run_ : runTrue tab12 100 6 = true := by kernel_rfl
theorem closed_any (w : World) (hw : 9 ≤ w.heap.size) : Calls Tryz.prog 6 #[] w fun e w' => e = .returned (.bool true) ∧ Below w.heap.size w w' := calls_true (by kernel_rfl) Tryz.call6 run_ w hw
end Go.Proofs.YtnfokaecobddkaaGreatDoor
end
section
/- The statement of 'StanzaNames': the call returns true; the tables and the errors of the library read as its text lays them. -/
namespace Go.Proofs.YtnfokaecobddkaaGreatDoor.stanzaNamesDone
open Go.ChangeShapes Go.WideShapes Go.ChangeAt Go.RowKit Go.Lib
set_option linter.unusedVariables false
set_option maxRecDepth 100000
/-- a world that bears all of them: what the door's run leaves, and the table that is pinned by its name -/
noncomputable def laidWorld (os : Os) : World :=
  let w0 := World.doorLaid Tryz.prog 79 os
  { w0 with heap := w0.heap.modify 2 fun
    | .cells _ t frozen => .cells (Lib.firstTab.map fun z => Value.int .u8 z).toArray t frozen
    | o => o }
theorem laid_met (os : Os) (args : Array Value) : laidMetH Tryz.prog Rows.stanzaNamesRow.laid ((laidWorld os).forCall (fun _ _ => 0) ⟨#[], args, []⟩).memory :=
  laidMetH_of_parts3 (fuel := 8) (laidMet_of_run' 8 (by kernel_rfl) (by kernel_rfl)) (by kernel_rfl) (by kernel_rfl)
theorem witness_row (os : Os) {H : Type} (enc : TypeId × Value → H) :
    (OpenSpec.ofChange Rows.stanzaNamesSpec).preRow enc Tryz.prog Tryz.f6 Rows.stanzaNamesRow.domain false Rows.stanzaNamesRow.laid ((laidWorld os).forCall (fun _ _ => 0) ⟨#[], #[], []⟩).memory #[] := by
  have hw : (DataW.whole enc Tryz.prog ((laidWorld os).forCall (fun _ _ => 0) ⟨#[], #[], []⟩).memory Tryz.f6.params.toList (OpenSpec.ofChange Rows.stanzaNamesSpec).vars false (#[] : Array Value).toList 8).map (fun x => (x.1, x.2.1)) =
      some ([], []) := by kernel_rfl
  obtain ⟨⟨x1, x2, x3⟩, hx, hx1⟩ := Option.map_eq_some_iff.1 hw
  simp only [Prod.mk.injEq] at hx1
  obtain ⟨rfl, rfl⟩ := hx1
  exact OpenSpec.preRow_of_cond 8 hx (by kernel_rfl) (fun k hk => by cases hk) (by kernel_rfl) (laid_met os _)
theorem size_of {W : World} (h : W.ShapedOpen Tryz.prog) : 9 ≤ W.heap.size := by
  have hs : (((begin Tryz.prog (fun _ _ => 0) default).world.heap[8]?).bind Obj.row?).isSome = true := by kernel_rfl
  obtain ⟨⟨zero, t⟩, h0⟩ := Option.isSome_iff_exists.1 hs
  obtain ⟨cs, hh, _⟩ := h.1 8 zero t (of_decide_eq_true (by kernel_rfl)) h0
  have := (Array.getElem?_eq_some_iff.1 hh).1
  omega
set_option maxHeartbeats 2000000 in
theorem lifted (os : Os) (started : os.Started) (H : Type) (enc : TypeId × Value → H) (F : Stop.Interp) :
    ReturnsInHanded {} Tryz.checked os 6 .any ((OpenSpec.ofChange Rows.stanzaNamesSpec).preRow enc Tryz.prog Tryz.f6 Rows.stanzaNamesRow.domain false Rows.stanzaNamesRow.laid) (((OpenSpec.ofChange Rows.stanzaNamesSpec).at F).post enc Tryz.prog Tryz.f6 false true false false) := by
  refine returnsInHanded_of_row (C := Tryz.checked) (s := OpenSpec.ofChange Rows.stanzaNamesSpec) own started (by kernel_rfl) Tryz.func6
    (witness_row_atRef (enc := enc) (C := Tryz.checked) false (laidWorld os) #[] rfl (by kernel_rfl) (by kernel_rfl) (by kernel_rfl) (witness_row os enc)) ?_
  intro W base args ds gs before hval0 hW _ _ _ _ hsh _
  have hW' := hW
  obtain ⟨p, q, hA0, hV, rfl, hfz, hnd⟩ := hW
  have hA : DataW.TrodAll enc Tryz.prog W 0 (fun _ => true) true Tryz.f6.params.toList args.toList ds p := hA0
  rw [Tryz.params6] at hA
  obtain ⟨rfl, rfl, rfl⟩ := trodAll_none hA
  obtain ⟨rfl, rfl⟩ := trodVars_none hV
  clear hA0 hval0
  refine (closed_any W (size_of hsh)).mono fun e W' ⟨he, bel⟩ => ?_
  subst he
  exact ⟨_, rfl, _, _, _, [], _, [], hW', trodAll_mk1 (shut_bool Tryz.underlying4 _), trodAll_mk0, rfl, bel.frame _, fun h => by cases h⟩
end Go.Proofs.YtnfokaecobddkaaGreatDoor.stanzaNamesDone
end
section
/- The tied card of 'StanzaNames'. -/
namespace Go.Proofs.YtnfokaecobddkaaGreatDoor.stanzaNamesDone
open Go.ChangeShapes Go.WideShapes Go.ChangeAt Go.RowKit Go.Lib
set_option linter.unusedVariables false
theorem closed : joinedFacts Tryz.prog 6 Tryz.f6 (OpenSpec.ofChange Rows.stanzaNamesSpec).bare Rows.stanzaNamesRow = true := by
  delta joinedFacts
  rewrite [may_enter, lifts_final, make_cut, laidOut, maps_rowed, stops_heard, stops_none, stopKnobs_none]
  kernel_rfl
theorem inst : Tryz.f6.isInstance Tryz.prog Rows.stanzaNamesRow.origin Rows.stanzaNamesRow.targs := of_decide_eq_true (by kernel_rfl)
theorem wrap : Tryz.f6.isWrapper Tryz.prog Rows.stanzaNamesRow.wrapper Rows.stanzaNamesRow.mainSum := by unfold Func.isWrapper; first | (rw [if_pos (by decide +kernel)]; kernel_rfl) | (rw [if_neg (by decide +kernel)]; exact ⟨rfl, rfl⟩)
set_option maxRecDepth 100000 in
theorem over : Rows.stanzaNamesRow.holds Tryz.pinned (OpenSpec.ofChange Rows.stanzaNamesSpec) :=
  OpenClaim.holds_of_cond 6 Tryz.f6 rfl rfl rfl rfl rfl rfl rfl ⟨rfl, rfl, rfl, rfl, rfl⟩ rfl rfl rfl rfl rfl (by kernel_rfl) Tryz.func6 closed inst wrap
    (fun os started H enc _ F0 => by rw [OpenClaim.pre_eq_preRow]; exact lifted os started H enc F0)
theorem proved : Rows.StanzaNamesCardSaid :=
  Claim7.holds_tied_plain_at .later [] [.data, .data, .data, .data, .handle, .sentinel, .sentinel, .pinned] true (true, "abfa91dde2a6f935aa99e589864e0708bd7b244e11d42d0d05ae914af1c71258") true
    over (fun _ h => by cases h) (by kernel_rfl) (fun _ h => by cases h) stanzaNames_row_tie rfl ⟨rfl, rfl⟩ (by kernel_rfl) rfl
    (fun f fn hf hfn => by
      obtain rfl : f = 6 := Option.some.inj ((show Tryz.prog.funcNamed "tidewaiter/tidewaiterlaw22.StanzaNames" = some 6 by kernel_rfl).symm.trans hf) |>.symm
      obtain rfl : fn = Tryz.f6 := (Option.some.inj (Tryz.func6.symm.trans hfn)).symm
      exact ⟨by kernel_rfl, fun j t ht => by
        rw [Tryz.params6] at ht
        simp at ht⟩)
    (by kernel_rfl)
#print axioms proved
end Go.Proofs.YtnfokaecobddkaaGreatDoor.stanzaNamesDone
end
