/-
  No cell of these rows narrows 'for every input' (looked for: loops, veiled, ifaces, maps, wideKeys, modest, calm, conditions, laid).
  DERIVED. THE GIVEN ROWS OF THIS SEAT. 15 by the template 'for every input the law returns true; each argument reads behind the call as it read before'; 0 by the template 'total and deterministic' (their statements: YtonblhannoinfaaTotals.lean).
  GIVEN WITH THE SEED: the statements are not yours to turn. If you find one false, say at which input.
  Laid BY PROGRAM, IN A SANDBOX (cutbox-rows.mjs): the forced cells as the released guide's own fill.sh prints them over the translation e088091cebbab24d… (all of the seat's roots in one cut). By AI agents, Wed Nov 11 2026. No macro, syntax, notation, axiom, sorry.
-/
import Derived.Test.YtonblhannoinfaaChecked
import GoSem.Claim
import GoSem.ClaimJoined
import GoSem.ClaimMapViews
import Derived.JoinedTies
import Derived.KernelRfl
namespace Go.Proofs.Ytonblhannoinfaa
/- THE CELL 'sum', in the pinned program and in every row, IS THE sha256 OF THE DUMP (.gsa) THAT YtonblhannoinfaaProg.lean LOADS. Nothing in Lean hashes anything: it is a label: what it is worth is what the hold of that sum in a sandbox is worth. -/
noncomputable def Try.pinned : Pinned := { name := "ytonblhannoinfaa", sum := "e088091cebbab24de05601996b50dab3c6b6a69fef60c77d12a175f3d0bc7fbc", checked := Try.checked }
namespace Rows
def none {H : Type} : Left H := { results := [], args := [] }

/-- 'tidewaiterlaw03.ShaBlocks': WHATEVER THE INPUT: true; the input reads as it did. -/
def shaBlocksSpec : ChangeSpec := { name := "shaBlocks", fn := fun _ => fun
  | [d1, d2] => { results := [.lit (.bool true)], args := [d1, d2] }
  | _ => none }
def shaBlocksRow : OpenClaim := { program := "ytonblhannoinfaa", sum := "e088091cebbab24de05601996b50dab3c6b6a69fef60c77d12a175f3d0bc7fbc", func := "tidewaiter/tidewaiterlaw03.ShaBlocks", spec := "shaBlocks", unfollowed := true, recurses := true, apart := false }
def ShaBlocksSaid : Prop := shaBlocksRow.holds Try.pinned (OpenSpec.ofChange shaBlocksSpec)

/-- ITS FALSE NEIGHBOUR: 'it returns false'. Refute it at one input. -/
def shaBlocksWrong : ChangeSpec := { name := "shaBlocks", fn := fun _ => fun
  | [d1, d2] => { results := [.lit (.bool false)], args := [d1, d2] }
  | _ => none }
def ShaBlocksWrongFalsely : Prop := shaBlocksRow.holds Try.pinned (OpenSpec.ofChange shaBlocksWrong)

/-- 'tidewaiterlaw01.HexNames': WHATEVER THE INPUT: true; the input reads as it did. -/
def hexNamesSpec : ChangeSpec := { name := "hexNames", fn := fun _ => fun
  | [] => { results := [.lit (.bool true)], args := [] }
  | _ => none }
def hexNamesRow : OpenClaim := { program := "ytonblhannoinfaa", sum := "e088091cebbab24de05601996b50dab3c6b6a69fef60c77d12a175f3d0bc7fbc", func := "tidewaiter/tidewaiterlaw01.HexNames", spec := "hexNames", inPlace := ["internal/bytealg.IndexByteString", "internal/abi.NoEscape"], apart := false }
def HexNamesSaid : Prop := hexNamesRow.holds Try.pinned (OpenSpec.ofChange hexNamesSpec)

/-- ITS FALSE NEIGHBOUR: 'it returns false'. Refute it at one input. -/
def hexNamesWrong : ChangeSpec := { name := "hexNames", fn := fun _ => fun
  | [] => { results := [.lit (.bool false)], args := [] }
  | _ => none }
def HexNamesWrongFalsely : Prop := hexNamesRow.holds Try.pinned (OpenSpec.ofChange hexNamesWrong)

/-- 'tidewaiterlaw01.HexTells': WHATEVER THE INPUT: true; the input reads as it did. -/
def hexTellsSpec : ChangeSpec := { name := "hexTells", fn := fun _ => fun
  | [d1, d2, d3, d4] => { results := [.lit (.bool true)], args := [d1, d2, d3, d4] }
  | _ => none }
def hexTellsRow : OpenClaim := { program := "ytonblhannoinfaa", sum := "e088091cebbab24de05601996b50dab3c6b6a69fef60c77d12a175f3d0bc7fbc", func := "tidewaiter/tidewaiterlaw01.HexTells", spec := "hexTells", inPlace := ["internal/bytealg.IndexByteString", "internal/abi.NoEscape"], apart := false }
def HexTellsSaid : Prop := hexTellsRow.holds Try.pinned (OpenSpec.ofChange hexTellsSpec)

/-- ITS FALSE NEIGHBOUR: 'it returns false'. Refute it at one input. -/
def hexTellsWrong : ChangeSpec := { name := "hexTells", fn := fun _ => fun
  | [d1, d2, d3, d4] => { results := [.lit (.bool false)], args := [d1, d2, d3, d4] }
  | _ => none }
def HexTellsWrongFalsely : Prop := hexTellsRow.holds Try.pinned (OpenSpec.ofChange hexTellsWrong)

/-- 'tidewaiterlaw01.HexBack': WHATEVER THE INPUT: true; the input reads as it did. -/
def hexBackSpec : ChangeSpec := { name := "hexBack", fn := fun _ => fun
  | [d1, d2] => { results := [.lit (.bool true)], args := [d1, d2] }
  | _ => none }
def hexBackRow : OpenClaim := { program := "ytonblhannoinfaa", sum := "e088091cebbab24de05601996b50dab3c6b6a69fef60c77d12a175f3d0bc7fbc", func := "tidewaiter/tidewaiterlaw01.HexBack", spec := "hexBack", inPlace := ["internal/bytealg.IndexByteString", "internal/abi.NoEscape"], apart := false }
def HexBackSaid : Prop := hexBackRow.holds Try.pinned (OpenSpec.ofChange hexBackSpec)

/-- ITS FALSE NEIGHBOUR: 'it returns false'. Refute it at one input. -/
def hexBackWrong : ChangeSpec := { name := "hexBack", fn := fun _ => fun
  | [d1, d2] => { results := [.lit (.bool false)], args := [d1, d2] }
  | _ => none }
def HexBackWrongFalsely : Prop := hexBackRow.holds Try.pinned (OpenSpec.ofChange hexBackWrong)

/-- 'tidewaiterlaw01.HexOrder': WHATEVER THE INPUT: true; the input reads as it did. -/
def hexOrderSpec : ChangeSpec := { name := "hexOrder", fn := fun _ => fun
  | [d1, d2] => { results := [.lit (.bool true)], args := [d1, d2] }
  | _ => none }
def hexOrderRow : OpenClaim := { program := "ytonblhannoinfaa", sum := "e088091cebbab24de05601996b50dab3c6b6a69fef60c77d12a175f3d0bc7fbc", func := "tidewaiter/tidewaiterlaw01.HexOrder", spec := "hexOrder", inPlace := ["internal/bytealg.IndexByteString", "internal/abi.NoEscape"], apart := false }
def HexOrderSaid : Prop := hexOrderRow.holds Try.pinned (OpenSpec.ofChange hexOrderSpec)

/-- ITS FALSE NEIGHBOUR: 'it returns false'. Refute it at one input. -/
def hexOrderWrong : ChangeSpec := { name := "hexOrder", fn := fun _ => fun
  | [d1, d2] => { results := [.lit (.bool false)], args := [d1, d2] }
  | _ => none }
def HexOrderWrongFalsely : Prop := hexOrderRow.holds Try.pinned (OpenSpec.ofChange hexOrderWrong)

/-- 'tidewaiterlaw01.HexDigits': WHATEVER THE INPUT: true; the input reads as it did. -/
def hexDigitsSpec : ChangeSpec := { name := "hexDigits", fn := fun _ => fun
  | [d] => { results := [.lit (.bool true)], args := [d] }
  | _ => none }
def hexDigitsRow : OpenClaim := { program := "ytonblhannoinfaa", sum := "e088091cebbab24de05601996b50dab3c6b6a69fef60c77d12a175f3d0bc7fbc", func := "tidewaiter/tidewaiterlaw01.HexDigits", spec := "hexDigits", inPlace := ["internal/bytealg.IndexByteString", "internal/abi.NoEscape"], apart := false }
def HexDigitsSaid : Prop := hexDigitsRow.holds Try.pinned (OpenSpec.ofChange hexDigitsSpec)

/-- ITS FALSE NEIGHBOUR: 'it returns false'. Refute it at one input. -/
def hexDigitsWrong : ChangeSpec := { name := "hexDigits", fn := fun _ => fun
  | [d] => { results := [.lit (.bool false)], args := [d] }
  | _ => none }
def HexDigitsWrongFalsely : Prop := hexDigitsRow.holds Try.pinned (OpenSpec.ofChange hexDigitsWrong)

/-- 'tidewaiterlaw03.ShaTells': WHATEVER THE INPUT: true; the input reads as it did. -/
def shaTellsSpec : ChangeSpec := { name := "shaTells", fn := fun _ => fun
  | [d1, d2] => { results := [.lit (.bool true)], args := [d1, d2] }
  | _ => none }
def shaTellsRow : OpenClaim := { program := "ytonblhannoinfaa", sum := "e088091cebbab24de05601996b50dab3c6b6a69fef60c77d12a175f3d0bc7fbc", func := "tidewaiter/tidewaiterlaw03.ShaTells", spec := "shaTells", unfollowed := true, recurses := true, apart := false }
def ShaTellsSaid : Prop := shaTellsRow.holds Try.pinned (OpenSpec.ofChange shaTellsSpec)

/-- ITS FALSE NEIGHBOUR: 'it returns false'. Refute it at one input. -/
def shaTellsWrong : ChangeSpec := { name := "shaTells", fn := fun _ => fun
  | [d1, d2] => { results := [.lit (.bool false)], args := [d1, d2] }
  | _ => none }
def ShaTellsWrongFalsely : Prop := shaTellsRow.holds Try.pinned (OpenSpec.ofChange shaTellsWrong)

/-- 'tidewaiterlaw03.ShaNames': WHATEVER THE INPUT: true; the input reads as it did. -/
def shaNamesSpec : ChangeSpec := { name := "shaNames", fn := fun _ => fun
  | [] => { results := [.lit (.bool true)], args := [] }
  | _ => none }
def shaNamesRow : OpenClaim := { program := "ytonblhannoinfaa", sum := "e088091cebbab24de05601996b50dab3c6b6a69fef60c77d12a175f3d0bc7fbc", func := "tidewaiter/tidewaiterlaw03.ShaNames", spec := "shaNames", inPlace := ["internal/abi.NoEscape"], unfollowed := true, recurses := true, apart := false }
def ShaNamesSaid : Prop := shaNamesRow.holds Try.pinned (OpenSpec.ofChange shaNamesSpec)

/-- ITS FALSE NEIGHBOUR: 'it returns false'. Refute it at one input. -/
def shaNamesWrong : ChangeSpec := { name := "shaNames", fn := fun _ => fun
  | [] => { results := [.lit (.bool false)], args := [] }
  | _ => none }
def ShaNamesWrongFalsely : Prop := shaNamesRow.holds Try.pinned (OpenSpec.ofChange shaNamesWrong)

/-- 'tidewaiterlaw03.ShaGoes': WHATEVER THE INPUT: true; the input reads as it did. -/
def shaGoesSpec : ChangeSpec := { name := "shaGoes", fn := fun _ => fun
  | [d1, d2] => { results := [.lit (.bool true)], args := [d1, d2] }
  | _ => none }
def shaGoesRow : OpenClaim := { program := "ytonblhannoinfaa", sum := "e088091cebbab24de05601996b50dab3c6b6a69fef60c77d12a175f3d0bc7fbc", func := "tidewaiter/tidewaiterlaw03.ShaGoes", spec := "shaGoes", inPlace := ["internal/abi.NoEscape"], unfollowed := true, recurses := true, apart := false }
def ShaGoesSaid : Prop := shaGoesRow.holds Try.pinned (OpenSpec.ofChange shaGoesSpec)

/-- ITS FALSE NEIGHBOUR: 'it returns false'. Refute it at one input. -/
def shaGoesWrong : ChangeSpec := { name := "shaGoes", fn := fun _ => fun
  | [d1, d2] => { results := [.lit (.bool false)], args := [d1, d2] }
  | _ => none }
def ShaGoesWrongFalsely : Prop := shaGoesRow.holds Try.pinned (OpenSpec.ofChange shaGoesWrong)

/-- 'tidewaiterlaw03.ShaPads': WHATEVER THE INPUT: true; the input reads as it did. -/
def shaPadsSpec : ChangeSpec := { name := "shaPads", fn := fun _ => fun
  | [d1, d2] => { results := [.lit (.bool true)], args := [d1, d2] }
  | _ => none }
def shaPadsRow : OpenClaim := { program := "ytonblhannoinfaa", sum := "e088091cebbab24de05601996b50dab3c6b6a69fef60c77d12a175f3d0bc7fbc", func := "tidewaiter/tidewaiterlaw03.ShaPads", spec := "shaPads", inPlace := ["internal/abi.NoEscape"], unfollowed := true, recurses := true, apart := false }
def ShaPadsSaid : Prop := shaPadsRow.holds Try.pinned (OpenSpec.ofChange shaPadsSpec)

/-- ITS FALSE NEIGHBOUR: 'it returns false'. Refute it at one input. -/
def shaPadsWrong : ChangeSpec := { name := "shaPads", fn := fun _ => fun
  | [d1, d2] => { results := [.lit (.bool false)], args := [d1, d2] }
  | _ => none }
def ShaPadsWrongFalsely : Prop := shaPadsRow.holds Try.pinned (OpenSpec.ofChange shaPadsWrong)

/-- 'tidewaiterlaw04.ChainNames': WHATEVER THE INPUT: true; the input reads as it did. -/
def chainNamesSpec : ChangeSpec := { name := "chainNames", fn := fun _ => fun
  | [] => { results := [.lit (.bool true)], args := [] }
  | _ => none }
def chainNamesRow : OpenClaim := { program := "ytonblhannoinfaa", sum := "e088091cebbab24de05601996b50dab3c6b6a69fef60c77d12a175f3d0bc7fbc", func := "tidewaiter/tidewaiterlaw04.ChainNames", spec := "chainNames", inPlace := ["internal/abi.NoEscape", "internal/bytealg.IndexByteString"], unfollowed := true, recurses := true, apart := false }
def ChainNamesSaid : Prop := chainNamesRow.holds Try.pinned (OpenSpec.ofChange chainNamesSpec)

/-- ITS FALSE NEIGHBOUR: 'it returns false'. Refute it at one input. -/
def chainNamesWrong : ChangeSpec := { name := "chainNames", fn := fun _ => fun
  | [] => { results := [.lit (.bool false)], args := [] }
  | _ => none }
def ChainNamesWrongFalsely : Prop := chainNamesRow.holds Try.pinned (OpenSpec.ofChange chainNamesWrong)

/-- 'tidewaiterlaw04.ChainTells': WHATEVER THE INPUT: true; the input reads as it did. -/
def chainTellsSpec : ChangeSpec := { name := "chainTells", fn := fun _ => fun
  | [d1, d2, d3, d4, d5] => { results := [.lit (.bool true)], args := [d1, d2, d3, d4, d5] }
  | _ => none }
def chainTellsRow : OpenClaim := { program := "ytonblhannoinfaa", sum := "e088091cebbab24de05601996b50dab3c6b6a69fef60c77d12a175f3d0bc7fbc", func := "tidewaiter/tidewaiterlaw04.ChainTells", spec := "chainTells", inPlace := ["internal/abi.NoEscape", "internal/bytealg.IndexByteString"], unfollowed := true, recurses := true, apart := false }
def ChainTellsSaid : Prop := chainTellsRow.holds Try.pinned (OpenSpec.ofChange chainTellsSpec)

/-- ITS FALSE NEIGHBOUR: 'it returns false'. Refute it at one input. -/
def chainTellsWrong : ChangeSpec := { name := "chainTells", fn := fun _ => fun
  | [d1, d2, d3, d4, d5] => { results := [.lit (.bool false)], args := [d1, d2, d3, d4, d5] }
  | _ => none }
def ChainTellsWrongFalsely : Prop := chainTellsRow.holds Try.pinned (OpenSpec.ofChange chainTellsWrong)

/-- 'tidewaiterlaw04.ChainGoes': WHATEVER THE INPUT: true; the input reads as it did. -/
def chainGoesSpec : ChangeSpec := { name := "chainGoes", fn := fun _ => fun
  | [d1, d2] => { results := [.lit (.bool true)], args := [d1, d2] }
  | _ => none }
def chainGoesRow : OpenClaim := { program := "ytonblhannoinfaa", sum := "e088091cebbab24de05601996b50dab3c6b6a69fef60c77d12a175f3d0bc7fbc", func := "tidewaiter/tidewaiterlaw04.ChainGoes", spec := "chainGoes", inPlace := ["internal/abi.NoEscape", "internal/bytealg.IndexByteString"], unfollowed := true, recurses := true, apart := false }
def ChainGoesSaid : Prop := chainGoesRow.holds Try.pinned (OpenSpec.ofChange chainGoesSpec)

/-- ITS FALSE NEIGHBOUR: 'it returns false'. Refute it at one input. -/
def chainGoesWrong : ChangeSpec := { name := "chainGoes", fn := fun _ => fun
  | [d1, d2] => { results := [.lit (.bool false)], args := [d1, d2] }
  | _ => none }
def ChainGoesWrongFalsely : Prop := chainGoesRow.holds Try.pinned (OpenSpec.ofChange chainGoesWrong)

/-- 'tidewaiterlaw04.ChainTakes': WHATEVER THE INPUT: true; the input reads as it did. -/
def chainTakesSpec : ChangeSpec := { name := "chainTakes", fn := fun _ => fun
  | [d1, d2, d3, d4] => { results := [.lit (.bool true)], args := [d1, d2, d3, d4] }
  | _ => none }
def chainTakesRow : OpenClaim := { program := "ytonblhannoinfaa", sum := "e088091cebbab24de05601996b50dab3c6b6a69fef60c77d12a175f3d0bc7fbc", func := "tidewaiter/tidewaiterlaw04.ChainTakes", spec := "chainTakes", inPlace := ["internal/abi.NoEscape", "internal/bytealg.IndexByteString"], unfollowed := true, recurses := true, apart := false }
def ChainTakesSaid : Prop := chainTakesRow.holds Try.pinned (OpenSpec.ofChange chainTakesSpec)

/-- ITS FALSE NEIGHBOUR: 'it returns false'. Refute it at one input. -/
def chainTakesWrong : ChangeSpec := { name := "chainTakes", fn := fun _ => fun
  | [d1, d2, d3, d4] => { results := [.lit (.bool false)], args := [d1, d2, d3, d4] }
  | _ => none }
def ChainTakesWrongFalsely : Prop := chainTakesRow.holds Try.pinned (OpenSpec.ofChange chainTakesWrong)

/-- 'tidewaiterlaw04.ChainSwitch': WHATEVER THE INPUT: true; the input reads as it did. -/
def chainSwitchSpec : ChangeSpec := { name := "chainSwitch", fn := fun _ => fun
  | [d1, d2, d3, d4] => { results := [.lit (.bool true)], args := [d1, d2, d3, d4] }
  | _ => none }
def chainSwitchRow : OpenClaim := { program := "ytonblhannoinfaa", sum := "e088091cebbab24de05601996b50dab3c6b6a69fef60c77d12a175f3d0bc7fbc", func := "tidewaiter/tidewaiterlaw04.ChainSwitch", spec := "chainSwitch", inPlace := ["internal/abi.NoEscape", "internal/bytealg.IndexByteString"], unfollowed := true, recurses := true, apart := false }
def ChainSwitchSaid : Prop := chainSwitchRow.holds Try.pinned (OpenSpec.ofChange chainSwitchSpec)

/-- ITS FALSE NEIGHBOUR: 'it returns false'. Refute it at one input. -/
def chainSwitchWrong : ChangeSpec := { name := "chainSwitch", fn := fun _ => fun
  | [d1, d2, d3, d4] => { results := [.lit (.bool false)], args := [d1, d2, d3, d4] }
  | _ => none }
def ChainSwitchWrongFalsely : Prop := chainSwitchRow.holds Try.pinned (OpenSpec.ofChange chainSwitchWrong)

/- THE SECOND FORM. 'bulk': how many values and letters a reading holds, each counted each time it is reached (what is shared counts as often as it is met; a slice's spare places count too). A statement '..UptoSaid' is the law's where the arguments, and the package variables that the reading takes, are together of bulk at most 1048576: NARROWER than '..Said'. Prove '..Said' where nothing that the law and all that it calls make is longer than what came in: it says more and counts as full. Else prove '..UptoSaid'. A law counts once. -/
mutual
def uptoBulk {H : Type} : DataW H → Nat
  | .lit (.string bytes) => bytes.length + 1
  | .lit _ => 1
  | .nil => 1
  | .ptr d => uptoBulk d + 1
  | .slice elems spare => uptoBulkAll elems + uptoBulkAll spare + 1
  | .agg parts => uptoBulkAll parts + 1
  | .iface _ d => uptoBulk d + 1
  | .map entries => uptoBulkEntries entries + 1
  | .held _ => 1
def uptoBulkAll {H : Type} : List (DataW H) → Nat
  | [] => 0
  | d :: r => uptoBulk d + uptoBulkAll r
def uptoBulkEntries {H : Type} : List (Lit × DataW H) → Nat
  | [] => 0
  | x :: r => uptoBulkEntry x + uptoBulkEntries r
def uptoBulkEntry {H : Type} : Lit × DataW H → Nat
  | (.string bytes, d) => bytes.length + uptoBulk d + 1
  | (_, d) => uptoBulk d + 1
 end
def uptoSmall : (H : Type) → List (DataW H) → Bool := fun _ ds => decide (uptoBulkAll ds ≤ 1048576)
def OpenSpec.upto (s : _root_.Go.ChangeSpec) : _root_.Go.OpenSpec := { _root_.Go.OpenSpec.ofChange s with cond := some uptoSmall }

/-- 'tidewaiterlaw03.ShaBlocks', WHERE WHAT IT READS IS OF BULK AT MOST 1048576: true; the input reads as it did. -/
def shaBlocksUptoRow : OpenClaim := { program := "ytonblhannoinfaa", sum := "e088091cebbab24de05601996b50dab3c6b6a69fef60c77d12a175f3d0bc7fbc", func := "tidewaiter/tidewaiterlaw03.ShaBlocks", spec := "shaBlocks", unfollowed := true, recurses := true, apart := false, narrowed := true }
def ShaBlocksUptoSaid : Prop := shaBlocksUptoRow.holds Try.pinned (OpenSpec.upto shaBlocksSpec)

/-- 'tidewaiterlaw01.HexNames', WHERE WHAT IT READS IS OF BULK AT MOST 1048576: true; the input reads as it did. -/
def hexNamesUptoRow : OpenClaim := { program := "ytonblhannoinfaa", sum := "e088091cebbab24de05601996b50dab3c6b6a69fef60c77d12a175f3d0bc7fbc", func := "tidewaiter/tidewaiterlaw01.HexNames", spec := "hexNames", inPlace := ["internal/bytealg.IndexByteString", "internal/abi.NoEscape"], apart := false, narrowed := true }
def HexNamesUptoSaid : Prop := hexNamesUptoRow.holds Try.pinned (OpenSpec.upto hexNamesSpec)

/-- 'tidewaiterlaw01.HexTells', WHERE WHAT IT READS IS OF BULK AT MOST 1048576: true; the input reads as it did. -/
def hexTellsUptoRow : OpenClaim := { program := "ytonblhannoinfaa", sum := "e088091cebbab24de05601996b50dab3c6b6a69fef60c77d12a175f3d0bc7fbc", func := "tidewaiter/tidewaiterlaw01.HexTells", spec := "hexTells", inPlace := ["internal/bytealg.IndexByteString", "internal/abi.NoEscape"], apart := false, narrowed := true }
def HexTellsUptoSaid : Prop := hexTellsUptoRow.holds Try.pinned (OpenSpec.upto hexTellsSpec)

/-- 'tidewaiterlaw01.HexBack', WHERE WHAT IT READS IS OF BULK AT MOST 1048576: true; the input reads as it did. -/
def hexBackUptoRow : OpenClaim := { program := "ytonblhannoinfaa", sum := "e088091cebbab24de05601996b50dab3c6b6a69fef60c77d12a175f3d0bc7fbc", func := "tidewaiter/tidewaiterlaw01.HexBack", spec := "hexBack", inPlace := ["internal/bytealg.IndexByteString", "internal/abi.NoEscape"], apart := false, narrowed := true }
def HexBackUptoSaid : Prop := hexBackUptoRow.holds Try.pinned (OpenSpec.upto hexBackSpec)

/-- 'tidewaiterlaw01.HexOrder', WHERE WHAT IT READS IS OF BULK AT MOST 1048576: true; the input reads as it did. -/
def hexOrderUptoRow : OpenClaim := { program := "ytonblhannoinfaa", sum := "e088091cebbab24de05601996b50dab3c6b6a69fef60c77d12a175f3d0bc7fbc", func := "tidewaiter/tidewaiterlaw01.HexOrder", spec := "hexOrder", inPlace := ["internal/bytealg.IndexByteString", "internal/abi.NoEscape"], apart := false, narrowed := true }
def HexOrderUptoSaid : Prop := hexOrderUptoRow.holds Try.pinned (OpenSpec.upto hexOrderSpec)

/-- 'tidewaiterlaw01.HexDigits', WHERE WHAT IT READS IS OF BULK AT MOST 1048576: true; the input reads as it did. -/
def hexDigitsUptoRow : OpenClaim := { program := "ytonblhannoinfaa", sum := "e088091cebbab24de05601996b50dab3c6b6a69fef60c77d12a175f3d0bc7fbc", func := "tidewaiter/tidewaiterlaw01.HexDigits", spec := "hexDigits", inPlace := ["internal/bytealg.IndexByteString", "internal/abi.NoEscape"], apart := false, narrowed := true }
def HexDigitsUptoSaid : Prop := hexDigitsUptoRow.holds Try.pinned (OpenSpec.upto hexDigitsSpec)

/-- 'tidewaiterlaw03.ShaTells', WHERE WHAT IT READS IS OF BULK AT MOST 1048576: true; the input reads as it did. -/
def shaTellsUptoRow : OpenClaim := { program := "ytonblhannoinfaa", sum := "e088091cebbab24de05601996b50dab3c6b6a69fef60c77d12a175f3d0bc7fbc", func := "tidewaiter/tidewaiterlaw03.ShaTells", spec := "shaTells", unfollowed := true, recurses := true, apart := false, narrowed := true }
def ShaTellsUptoSaid : Prop := shaTellsUptoRow.holds Try.pinned (OpenSpec.upto shaTellsSpec)

/-- 'tidewaiterlaw03.ShaNames', WHERE WHAT IT READS IS OF BULK AT MOST 1048576: true; the input reads as it did. -/
def shaNamesUptoRow : OpenClaim := { program := "ytonblhannoinfaa", sum := "e088091cebbab24de05601996b50dab3c6b6a69fef60c77d12a175f3d0bc7fbc", func := "tidewaiter/tidewaiterlaw03.ShaNames", spec := "shaNames", inPlace := ["internal/abi.NoEscape"], unfollowed := true, recurses := true, apart := false, narrowed := true }
def ShaNamesUptoSaid : Prop := shaNamesUptoRow.holds Try.pinned (OpenSpec.upto shaNamesSpec)

/-- 'tidewaiterlaw03.ShaGoes', WHERE WHAT IT READS IS OF BULK AT MOST 1048576: true; the input reads as it did. -/
def shaGoesUptoRow : OpenClaim := { program := "ytonblhannoinfaa", sum := "e088091cebbab24de05601996b50dab3c6b6a69fef60c77d12a175f3d0bc7fbc", func := "tidewaiter/tidewaiterlaw03.ShaGoes", spec := "shaGoes", inPlace := ["internal/abi.NoEscape"], unfollowed := true, recurses := true, apart := false, narrowed := true }
def ShaGoesUptoSaid : Prop := shaGoesUptoRow.holds Try.pinned (OpenSpec.upto shaGoesSpec)

/-- 'tidewaiterlaw03.ShaPads', WHERE WHAT IT READS IS OF BULK AT MOST 1048576: true; the input reads as it did. -/
def shaPadsUptoRow : OpenClaim := { program := "ytonblhannoinfaa", sum := "e088091cebbab24de05601996b50dab3c6b6a69fef60c77d12a175f3d0bc7fbc", func := "tidewaiter/tidewaiterlaw03.ShaPads", spec := "shaPads", inPlace := ["internal/abi.NoEscape"], unfollowed := true, recurses := true, apart := false, narrowed := true }
def ShaPadsUptoSaid : Prop := shaPadsUptoRow.holds Try.pinned (OpenSpec.upto shaPadsSpec)

/-- 'tidewaiterlaw04.ChainNames', WHERE WHAT IT READS IS OF BULK AT MOST 1048576: true; the input reads as it did. -/
def chainNamesUptoRow : OpenClaim := { program := "ytonblhannoinfaa", sum := "e088091cebbab24de05601996b50dab3c6b6a69fef60c77d12a175f3d0bc7fbc", func := "tidewaiter/tidewaiterlaw04.ChainNames", spec := "chainNames", inPlace := ["internal/abi.NoEscape", "internal/bytealg.IndexByteString"], unfollowed := true, recurses := true, apart := false, narrowed := true }
def ChainNamesUptoSaid : Prop := chainNamesUptoRow.holds Try.pinned (OpenSpec.upto chainNamesSpec)

/-- 'tidewaiterlaw04.ChainTells', WHERE WHAT IT READS IS OF BULK AT MOST 1048576: true; the input reads as it did. -/
def chainTellsUptoRow : OpenClaim := { program := "ytonblhannoinfaa", sum := "e088091cebbab24de05601996b50dab3c6b6a69fef60c77d12a175f3d0bc7fbc", func := "tidewaiter/tidewaiterlaw04.ChainTells", spec := "chainTells", inPlace := ["internal/abi.NoEscape", "internal/bytealg.IndexByteString"], unfollowed := true, recurses := true, apart := false, narrowed := true }
def ChainTellsUptoSaid : Prop := chainTellsUptoRow.holds Try.pinned (OpenSpec.upto chainTellsSpec)

/-- 'tidewaiterlaw04.ChainGoes', WHERE WHAT IT READS IS OF BULK AT MOST 1048576: true; the input reads as it did. -/
def chainGoesUptoRow : OpenClaim := { program := "ytonblhannoinfaa", sum := "e088091cebbab24de05601996b50dab3c6b6a69fef60c77d12a175f3d0bc7fbc", func := "tidewaiter/tidewaiterlaw04.ChainGoes", spec := "chainGoes", inPlace := ["internal/abi.NoEscape", "internal/bytealg.IndexByteString"], unfollowed := true, recurses := true, apart := false, narrowed := true }
def ChainGoesUptoSaid : Prop := chainGoesUptoRow.holds Try.pinned (OpenSpec.upto chainGoesSpec)

/-- 'tidewaiterlaw04.ChainTakes', WHERE WHAT IT READS IS OF BULK AT MOST 1048576: true; the input reads as it did. -/
def chainTakesUptoRow : OpenClaim := { program := "ytonblhannoinfaa", sum := "e088091cebbab24de05601996b50dab3c6b6a69fef60c77d12a175f3d0bc7fbc", func := "tidewaiter/tidewaiterlaw04.ChainTakes", spec := "chainTakes", inPlace := ["internal/abi.NoEscape", "internal/bytealg.IndexByteString"], unfollowed := true, recurses := true, apart := false, narrowed := true }
def ChainTakesUptoSaid : Prop := chainTakesUptoRow.holds Try.pinned (OpenSpec.upto chainTakesSpec)

/-- 'tidewaiterlaw04.ChainSwitch', WHERE WHAT IT READS IS OF BULK AT MOST 1048576: true; the input reads as it did. -/
def chainSwitchUptoRow : OpenClaim := { program := "ytonblhannoinfaa", sum := "e088091cebbab24de05601996b50dab3c6b6a69fef60c77d12a175f3d0bc7fbc", func := "tidewaiter/tidewaiterlaw04.ChainSwitch", spec := "chainSwitch", inPlace := ["internal/abi.NoEscape", "internal/bytealg.IndexByteString"], unfollowed := true, recurses := true, apart := false, narrowed := true }
def ChainSwitchUptoSaid : Prop := chainSwitchUptoRow.holds Try.pinned (OpenSpec.upto chainSwitchSpec)

end Rows
end Go.Proofs.Ytonblhannoinfaa
