/-
  No cell of these rows narrows 'for every input' (looked for: loops, veiled, ifaces, maps, wideKeys, modest, calm, conditions, laid).
  DERIVED. THE GIVEN ROWS OF THIS SEAT. 15 by the template 'for every input the law returns true; each argument reads behind the call as it read before'; 0 by the template 'total and deterministic' (their statements: YtojcnapdalpnmaaTotals.lean).
  GIVEN WITH THE SEED: the statements are not yours to turn. If you find one false, say at which input.
  Laid BY PROGRAM, IN A SANDBOX (cutbox-rows.mjs): the forced cells as the released guide's own fill.sh prints them over the translation ae5894213cb0f907… (all of the seat's roots in one cut). By AI agents, Wed Nov 11 2026. No macro, syntax, notation, axiom, sorry.
-/
import Derived.Test.YtojcnapdalpnmaaChecked
import GoSem.Claim
import GoSem.ClaimJoined
import GoSem.ClaimMapViews
import Derived.JoinedTies
import Derived.KernelRfl
namespace Go.Proofs.Ytojcnapdalpnmaa
/- THE CELL 'sum', in the pinned program and in every row, IS THE sha256 OF THE DUMP (.gsa) THAT YtojcnapdalpnmaaProg.lean LOADS. Nothing in Lean hashes anything: it is a label: what it is worth is what the hold of that sum in a sandbox is worth. -/
noncomputable def Try.pinned : Pinned := { name := "ytojcnapdalpnmaa", sum := "ae5894213cb0f9075140623c2df34a6c056301c8405d9d480eaabdf631cd8203", checked := Try.checked }
namespace Rows
def none {H : Type} : Left H := { results := [], args := [] }

/-- 'laws.FnExactIsGrid': WHATEVER THE INPUT: true; the input reads as it did. -/
def fnExactIsGridSpec : ChangeSpec := { name := "fnExactIsGrid", fn := fun _ => fun
  | [d] => { results := [.lit (.bool true)], args := [d] }
  | _ => none }
def fnExactIsGridRow : OpenClaim := { program := "ytojcnapdalpnmaa", sum := "ae5894213cb0f9075140623c2df34a6c056301c8405d9d480eaabdf631cd8203", func := "loop.example/g01113/laws.FnExactIsGrid", spec := "fnExactIsGrid", unfollowed := true, recurses := true, apart := false }
def FnExactIsGridSaid : Prop := fnExactIsGridRow.holds Try.pinned (OpenSpec.ofChange fnExactIsGridSpec)

/-- ITS FALSE NEIGHBOUR: 'it returns false'. Refute it at one input. -/
def fnExactIsGridWrong : ChangeSpec := { name := "fnExactIsGrid", fn := fun _ => fun
  | [d] => { results := [.lit (.bool false)], args := [d] }
  | _ => none }
def FnExactIsGridWrongFalsely : Prop := fnExactIsGridRow.holds Try.pinned (OpenSpec.ofChange fnExactIsGridWrong)

/-- 'laws.FnExactGridsApart': WHATEVER THE INPUT: true; the input reads as it did. -/
def fnExactGridsApartSpec : ChangeSpec := { name := "fnExactGridsApart", fn := fun _ => fun
  | [d1, d2] => { results := [.lit (.bool true)], args := [d1, d2] }
  | _ => none }
def fnExactGridsApartRow : OpenClaim := { program := "ytojcnapdalpnmaa", sum := "ae5894213cb0f9075140623c2df34a6c056301c8405d9d480eaabdf631cd8203", func := "loop.example/g01113/laws.FnExactGridsApart", spec := "fnExactGridsApart", unfollowed := true, recurses := true, apart := false }
def FnExactGridsApartSaid : Prop := fnExactGridsApartRow.holds Try.pinned (OpenSpec.ofChange fnExactGridsApartSpec)

/-- ITS FALSE NEIGHBOUR: 'it returns false'. Refute it at one input. -/
def fnExactGridsApartWrong : ChangeSpec := { name := "fnExactGridsApart", fn := fun _ => fun
  | [d1, d2] => { results := [.lit (.bool false)], args := [d1, d2] }
  | _ => none }
def FnExactGridsApartWrongFalsely : Prop := fnExactGridsApartRow.holds Try.pinned (OpenSpec.ofChange fnExactGridsApartWrong)

/-- 'laws.FnExactIsOnlyGrid': WHATEVER THE INPUT: true; the input reads as it did. -/
def fnExactIsOnlyGridSpec : ChangeSpec := { name := "fnExactIsOnlyGrid", fn := fun _ => fun
  | [d] => { results := [.lit (.bool true)], args := [d] }
  | _ => none }
def fnExactIsOnlyGridRow : OpenClaim := { program := "ytojcnapdalpnmaa", sum := "ae5894213cb0f9075140623c2df34a6c056301c8405d9d480eaabdf631cd8203", func := "loop.example/g01113/laws.FnExactIsOnlyGrid", spec := "fnExactIsOnlyGrid", unfollowed := true, recurses := true, apart := false }
def FnExactIsOnlyGridSaid : Prop := fnExactIsOnlyGridRow.holds Try.pinned (OpenSpec.ofChange fnExactIsOnlyGridSpec)

/-- ITS FALSE NEIGHBOUR: 'it returns false'. Refute it at one input. -/
def fnExactIsOnlyGridWrong : ChangeSpec := { name := "fnExactIsOnlyGrid", fn := fun _ => fun
  | [d] => { results := [.lit (.bool false)], args := [d] }
  | _ => none }
def FnExactIsOnlyGridWrongFalsely : Prop := fnExactIsOnlyGridRow.holds Try.pinned (OpenSpec.ofChange fnExactIsOnlyGridWrong)

/-- 'laws.FnExactTurnGrid': WHATEVER THE INPUT: true; the input reads as it did. -/
def fnExactTurnGridSpec : ChangeSpec := { name := "fnExactTurnGrid", fn := fun _ => fun
  | [d] => { results := [.lit (.bool true)], args := [d] }
  | _ => none }
def fnExactTurnGridRow : OpenClaim := { program := "ytojcnapdalpnmaa", sum := "ae5894213cb0f9075140623c2df34a6c056301c8405d9d480eaabdf631cd8203", func := "loop.example/g01113/laws.FnExactTurnGrid", spec := "fnExactTurnGrid", unfollowed := true, recurses := true, apart := false }
def FnExactTurnGridSaid : Prop := fnExactTurnGridRow.holds Try.pinned (OpenSpec.ofChange fnExactTurnGridSpec)

/-- ITS FALSE NEIGHBOUR: 'it returns false'. Refute it at one input. -/
def fnExactTurnGridWrong : ChangeSpec := { name := "fnExactTurnGrid", fn := fun _ => fun
  | [d] => { results := [.lit (.bool false)], args := [d] }
  | _ => none }
def FnExactTurnGridWrongFalsely : Prop := fnExactTurnGridRow.holds Try.pinned (OpenSpec.ofChange fnExactTurnGridWrong)

/-- 'laws.FnExactOppositeGrid': WHATEVER THE INPUT: true; the input reads as it did. -/
def fnExactOppositeGridSpec : ChangeSpec := { name := "fnExactOppositeGrid", fn := fun _ => fun
  | [d] => { results := [.lit (.bool true)], args := [d] }
  | _ => none }
def fnExactOppositeGridRow : OpenClaim := { program := "ytojcnapdalpnmaa", sum := "ae5894213cb0f9075140623c2df34a6c056301c8405d9d480eaabdf631cd8203", func := "loop.example/g01113/laws.FnExactOppositeGrid", spec := "fnExactOppositeGrid", unfollowed := true, recurses := true, apart := false }
def FnExactOppositeGridSaid : Prop := fnExactOppositeGridRow.holds Try.pinned (OpenSpec.ofChange fnExactOppositeGridSpec)

/-- ITS FALSE NEIGHBOUR: 'it returns false'. Refute it at one input. -/
def fnExactOppositeGridWrong : ChangeSpec := { name := "fnExactOppositeGrid", fn := fun _ => fun
  | [d] => { results := [.lit (.bool false)], args := [d] }
  | _ => none }
def FnExactOppositeGridWrongFalsely : Prop := fnExactOppositeGridRow.holds Try.pinned (OpenSpec.ofChange fnExactOppositeGridWrong)

/-- 'laws.FnExactSumsOfGrid': WHATEVER THE INPUT: true; the input reads as it did. -/
def fnExactSumsOfGridSpec : ChangeSpec := { name := "fnExactSumsOfGrid", fn := fun _ => fun
  | [d] => { results := [.lit (.bool true)], args := [d] }
  | _ => none }
def fnExactSumsOfGridRow : OpenClaim := { program := "ytojcnapdalpnmaa", sum := "ae5894213cb0f9075140623c2df34a6c056301c8405d9d480eaabdf631cd8203", func := "loop.example/g01113/laws.FnExactSumsOfGrid", spec := "fnExactSumsOfGrid", unfollowed := true, recurses := true, apart := false }
def FnExactSumsOfGridSaid : Prop := fnExactSumsOfGridRow.holds Try.pinned (OpenSpec.ofChange fnExactSumsOfGridSpec)

/-- ITS FALSE NEIGHBOUR: 'it returns false'. Refute it at one input. -/
def fnExactSumsOfGridWrong : ChangeSpec := { name := "fnExactSumsOfGrid", fn := fun _ => fun
  | [d] => { results := [.lit (.bool false)], args := [d] }
  | _ => none }
def FnExactSumsOfGridWrongFalsely : Prop := fnExactSumsOfGridRow.holds Try.pinned (OpenSpec.ofChange fnExactSumsOfGridWrong)

/-- 'laws.FnExactDoSwitch': WHATEVER THE INPUT: true; the input reads as it did. -/
def fnExactDoSwitchSpec : ChangeSpec := { name := "fnExactDoSwitch", fn := fun _ => fun
  | [d1, d2] => { results := [.lit (.bool true)], args := [d1, d2] }
  | _ => none }
def fnExactDoSwitchRow : OpenClaim := { program := "ytojcnapdalpnmaa", sum := "ae5894213cb0f9075140623c2df34a6c056301c8405d9d480eaabdf631cd8203", func := "loop.example/g01113/laws.FnExactDoSwitch", spec := "fnExactDoSwitch", unfollowed := true, recurses := true, apart := false }
def FnExactDoSwitchSaid : Prop := fnExactDoSwitchRow.holds Try.pinned (OpenSpec.ofChange fnExactDoSwitchSpec)

/-- ITS FALSE NEIGHBOUR: 'it returns false'. Refute it at one input. -/
def fnExactDoSwitchWrong : ChangeSpec := { name := "fnExactDoSwitch", fn := fun _ => fun
  | [d1, d2] => { results := [.lit (.bool false)], args := [d1, d2] }
  | _ => none }
def FnExactDoSwitchWrongFalsely : Prop := fnExactDoSwitchRow.holds Try.pinned (OpenSpec.ofChange fnExactDoSwitchWrong)

/-- 'laws.FnExactGridSwitches': WHATEVER THE INPUT: true; the input reads as it did. -/
def fnExactGridSwitchesSpec : ChangeSpec := { name := "fnExactGridSwitches", fn := fun _ => fun
  | [d] => { results := [.lit (.bool true)], args := [d] }
  | _ => none }
def fnExactGridSwitchesRow : OpenClaim := { program := "ytojcnapdalpnmaa", sum := "ae5894213cb0f9075140623c2df34a6c056301c8405d9d480eaabdf631cd8203", func := "loop.example/g01113/laws.FnExactGridSwitches", spec := "fnExactGridSwitches", unfollowed := true, recurses := true, apart := false }
def FnExactGridSwitchesSaid : Prop := fnExactGridSwitchesRow.holds Try.pinned (OpenSpec.ofChange fnExactGridSwitchesSpec)

/-- ITS FALSE NEIGHBOUR: 'it returns false'. Refute it at one input. -/
def fnExactGridSwitchesWrong : ChangeSpec := { name := "fnExactGridSwitches", fn := fun _ => fun
  | [d] => { results := [.lit (.bool false)], args := [d] }
  | _ => none }
def FnExactGridSwitchesWrongFalsely : Prop := fnExactGridSwitchesRow.holds Try.pinned (OpenSpec.ofChange fnExactGridSwitchesWrong)

/-- 'laws.FnExactGridPath': WHATEVER THE INPUT: true; the input reads as it did. -/
def fnExactGridPathSpec : ChangeSpec := { name := "fnExactGridPath", fn := fun _ => fun
  | [d1, d2] => { results := [.lit (.bool true)], args := [d1, d2] }
  | _ => none }
def fnExactGridPathRow : OpenClaim := { program := "ytojcnapdalpnmaa", sum := "ae5894213cb0f9075140623c2df34a6c056301c8405d9d480eaabdf631cd8203", func := "loop.example/g01113/laws.FnExactGridPath", spec := "fnExactGridPath", unfollowed := true, recurses := true, apart := false }
def FnExactGridPathSaid : Prop := fnExactGridPathRow.holds Try.pinned (OpenSpec.ofChange fnExactGridPathSpec)

/-- ITS FALSE NEIGHBOUR: 'it returns false'. Refute it at one input. -/
def fnExactGridPathWrong : ChangeSpec := { name := "fnExactGridPath", fn := fun _ => fun
  | [d1, d2] => { results := [.lit (.bool false)], args := [d1, d2] }
  | _ => none }
def FnExactGridPathWrongFalsely : Prop := fnExactGridPathRow.holds Try.pinned (OpenSpec.ofChange fnExactGridPathWrong)

/-- 'laws.FnExactGridRefusal': WHATEVER THE INPUT: true; the input reads as it did. -/
def fnExactGridRefusalSpec : ChangeSpec := { name := "fnExactGridRefusal", fn := fun _ => fun
  | [d1, d2] => { results := [.lit (.bool true)], args := [d1, d2] }
  | _ => none }
def fnExactGridRefusalRow : OpenClaim := { program := "ytojcnapdalpnmaa", sum := "ae5894213cb0f9075140623c2df34a6c056301c8405d9d480eaabdf631cd8203", func := "loop.example/g01113/laws.FnExactGridRefusal", spec := "fnExactGridRefusal", unfollowed := true, recurses := true, apart := false }
def FnExactGridRefusalSaid : Prop := fnExactGridRefusalRow.holds Try.pinned (OpenSpec.ofChange fnExactGridRefusalSpec)

/-- ITS FALSE NEIGHBOUR: 'it returns false'. Refute it at one input. -/
def fnExactGridRefusalWrong : ChangeSpec := { name := "fnExactGridRefusal", fn := fun _ => fun
  | [d1, d2] => { results := [.lit (.bool false)], args := [d1, d2] }
  | _ => none }
def FnExactGridRefusalWrongFalsely : Prop := fnExactGridRefusalRow.holds Try.pinned (OpenSpec.ofChange fnExactGridRefusalWrong)

/-- 'laws.FnExactHasGrid': WHATEVER THE INPUT: true; the input reads as it did. -/
def fnExactHasGridSpec : ChangeSpec := { name := "fnExactHasGrid", fn := fun _ => fun
  | [d1, d2] => { results := [.lit (.bool true)], args := [d1, d2] }
  | _ => none }
def fnExactHasGridRow : OpenClaim := { program := "ytojcnapdalpnmaa", sum := "ae5894213cb0f9075140623c2df34a6c056301c8405d9d480eaabdf631cd8203", func := "loop.example/g01113/laws.FnExactHasGrid", spec := "fnExactHasGrid", unfollowed := true, recurses := true, apart := false }
def FnExactHasGridSaid : Prop := fnExactHasGridRow.holds Try.pinned (OpenSpec.ofChange fnExactHasGridSpec)

/-- ITS FALSE NEIGHBOUR: 'it returns false'. Refute it at one input. -/
def fnExactHasGridWrong : ChangeSpec := { name := "fnExactHasGrid", fn := fun _ => fun
  | [d1, d2] => { results := [.lit (.bool false)], args := [d1, d2] }
  | _ => none }
def FnExactHasGridWrongFalsely : Prop := fnExactHasGridRow.holds Try.pinned (OpenSpec.ofChange fnExactHasGridWrong)

/-- 'laws.FnExactGridOf': WHATEVER THE INPUT: true; the input reads as it did. -/
def fnExactGridOfSpec : ChangeSpec := { name := "fnExactGridOf", fn := fun _ => fun
  | [d1, d2] => { results := [.lit (.bool true)], args := [d1, d2] }
  | _ => none }
def fnExactGridOfRow : OpenClaim := { program := "ytojcnapdalpnmaa", sum := "ae5894213cb0f9075140623c2df34a6c056301c8405d9d480eaabdf631cd8203", func := "loop.example/g01113/laws.FnExactGridOf", spec := "fnExactGridOf", unfollowed := true, recurses := true, apart := false }
def FnExactGridOfSaid : Prop := fnExactGridOfRow.holds Try.pinned (OpenSpec.ofChange fnExactGridOfSpec)

/-- ITS FALSE NEIGHBOUR: 'it returns false'. Refute it at one input. -/
def fnExactGridOfWrong : ChangeSpec := { name := "fnExactGridOf", fn := fun _ => fun
  | [d1, d2] => { results := [.lit (.bool false)], args := [d1, d2] }
  | _ => none }
def FnExactGridOfWrongFalsely : Prop := fnExactGridOfRow.holds Try.pinned (OpenSpec.ofChange fnExactGridOfWrong)

/-- 'laws.FnSwitchesKeepSums': WHATEVER THE INPUT: true; the input reads as it did. -/
def fnSwitchesKeepSumsSpec : ChangeSpec := { name := "fnSwitchesKeepSums", fn := fun _ => fun
  | [d1, d2] => { results := [.lit (.bool true)], args := [d1, d2] }
  | _ => none }
def fnSwitchesKeepSumsRow : OpenClaim := { program := "ytojcnapdalpnmaa", sum := "ae5894213cb0f9075140623c2df34a6c056301c8405d9d480eaabdf631cd8203", func := "loop.example/g01113/laws.FnSwitchesKeepSums", spec := "fnSwitchesKeepSums", unfollowed := true, recurses := true, apart := false }
def FnSwitchesKeepSumsSaid : Prop := fnSwitchesKeepSumsRow.holds Try.pinned (OpenSpec.ofChange fnSwitchesKeepSumsSpec)

/-- ITS FALSE NEIGHBOUR: 'it returns false'. Refute it at one input. -/
def fnSwitchesKeepSumsWrong : ChangeSpec := { name := "fnSwitchesKeepSums", fn := fun _ => fun
  | [d1, d2] => { results := [.lit (.bool false)], args := [d1, d2] }
  | _ => none }
def FnSwitchesKeepSumsWrongFalsely : Prop := fnSwitchesKeepSumsRow.holds Try.pinned (OpenSpec.ofChange fnSwitchesKeepSumsWrong)

/-- 'laws.FnPathsOfSwitches': WHATEVER THE INPUT: true; the input reads as it did. -/
def fnPathsOfSwitchesSpec : ChangeSpec := { name := "fnPathsOfSwitches", fn := fun _ => fun
  | [d1, d2] => { results := [.lit (.bool true)], args := [d1, d2] }
  | _ => none }
def fnPathsOfSwitchesRow : OpenClaim := { program := "ytojcnapdalpnmaa", sum := "ae5894213cb0f9075140623c2df34a6c056301c8405d9d480eaabdf631cd8203", func := "loop.example/g01113/laws.FnPathsOfSwitches", spec := "fnPathsOfSwitches", unfollowed := true, recurses := true, apart := false }
def FnPathsOfSwitchesSaid : Prop := fnPathsOfSwitchesRow.holds Try.pinned (OpenSpec.ofChange fnPathsOfSwitchesSpec)

/-- ITS FALSE NEIGHBOUR: 'it returns false'. Refute it at one input. -/
def fnPathsOfSwitchesWrong : ChangeSpec := { name := "fnPathsOfSwitches", fn := fun _ => fun
  | [d1, d2] => { results := [.lit (.bool false)], args := [d1, d2] }
  | _ => none }
def FnPathsOfSwitchesWrongFalsely : Prop := fnPathsOfSwitchesRow.holds Try.pinned (OpenSpec.ofChange fnPathsOfSwitchesWrong)

/-- 'laws.FnGridsBuiltOrRefused': WHATEVER THE INPUT: true; the input reads as it did. -/
def fnGridsBuiltOrRefusedSpec : ChangeSpec := { name := "fnGridsBuiltOrRefused", fn := fun _ => fun
  | [d1, d2] => { results := [.lit (.bool true)], args := [d1, d2] }
  | _ => none }
def fnGridsBuiltOrRefusedRow : OpenClaim := { program := "ytojcnapdalpnmaa", sum := "ae5894213cb0f9075140623c2df34a6c056301c8405d9d480eaabdf631cd8203", func := "loop.example/g01113/laws.FnGridsBuiltOrRefused", spec := "fnGridsBuiltOrRefused", unfollowed := true, recurses := true, apart := false }
def FnGridsBuiltOrRefusedSaid : Prop := fnGridsBuiltOrRefusedRow.holds Try.pinned (OpenSpec.ofChange fnGridsBuiltOrRefusedSpec)

/-- ITS FALSE NEIGHBOUR: 'it returns false'. Refute it at one input. -/
def fnGridsBuiltOrRefusedWrong : ChangeSpec := { name := "fnGridsBuiltOrRefused", fn := fun _ => fun
  | [d1, d2] => { results := [.lit (.bool false)], args := [d1, d2] }
  | _ => none }
def FnGridsBuiltOrRefusedWrongFalsely : Prop := fnGridsBuiltOrRefusedRow.holds Try.pinned (OpenSpec.ofChange fnGridsBuiltOrRefusedWrong)

/- THE SECOND FORM. 'bulk': how many values and letters a reading holds, each counted each time it is reached (what is shared counts as often as it is met; a slice's spare places count too). A statement '..UptoSaid' is the law's where the arguments, and the package variables that the reading takes, are together of bulk at most 1048576: NARROWER than '..Said'. Prove '..Said' where nothing that the law and all that it calls make is longer than what came in: it says more and counts as full. Else prove '..UptoSaid'. A law counts once. -/
mutual
def uptoBulk {H : Type} : DataW H → Nat
  | .lit (.string bytes) => bytes.length + 1
  | .lit _ => 1
  | .nil => 1
  | .ptr d => uptoBulk d + 1
  | .slice elems spare => uptoBulkAll elems + uptoBulkAll spare + 1
  | .agg parts => uptoBulkAll parts + 1
  | .iface _ d => uptoBulk d + 1
  | .map entries => uptoBulkEntries entries + 1
  | .held _ => 1
def uptoBulkAll {H : Type} : List (DataW H) → Nat
  | [] => 0
  | d :: r => uptoBulk d + uptoBulkAll r
def uptoBulkEntries {H : Type} : List (Lit × DataW H) → Nat
  | [] => 0
  | x :: r => uptoBulkEntry x + uptoBulkEntries r
def uptoBulkEntry {H : Type} : Lit × DataW H → Nat
  | (.string bytes, d) => bytes.length + uptoBulk d + 1
  | (_, d) => uptoBulk d + 1
 end
def uptoSmall : (H : Type) → List (DataW H) → Bool := fun _ ds => decide (uptoBulkAll ds ≤ 1048576)
def OpenSpec.upto (s : _root_.Go.ChangeSpec) : _root_.Go.OpenSpec := { _root_.Go.OpenSpec.ofChange s with cond := some uptoSmall }

/-- 'laws.FnExactIsGrid', WHERE WHAT IT READS IS OF BULK AT MOST 1048576: true; the input reads as it did. -/
def fnExactIsGridUptoRow : OpenClaim := { program := "ytojcnapdalpnmaa", sum := "ae5894213cb0f9075140623c2df34a6c056301c8405d9d480eaabdf631cd8203", func := "loop.example/g01113/laws.FnExactIsGrid", spec := "fnExactIsGrid", unfollowed := true, recurses := true, apart := false, narrowed := true }
def FnExactIsGridUptoSaid : Prop := fnExactIsGridUptoRow.holds Try.pinned (OpenSpec.upto fnExactIsGridSpec)

/-- 'laws.FnExactGridsApart', WHERE WHAT IT READS IS OF BULK AT MOST 1048576: true; the input reads as it did. -/
def fnExactGridsApartUptoRow : OpenClaim := { program := "ytojcnapdalpnmaa", sum := "ae5894213cb0f9075140623c2df34a6c056301c8405d9d480eaabdf631cd8203", func := "loop.example/g01113/laws.FnExactGridsApart", spec := "fnExactGridsApart", unfollowed := true, recurses := true, apart := false, narrowed := true }
def FnExactGridsApartUptoSaid : Prop := fnExactGridsApartUptoRow.holds Try.pinned (OpenSpec.upto fnExactGridsApartSpec)

/-- 'laws.FnExactIsOnlyGrid', WHERE WHAT IT READS IS OF BULK AT MOST 1048576: true; the input reads as it did. -/
def fnExactIsOnlyGridUptoRow : OpenClaim := { program := "ytojcnapdalpnmaa", sum := "ae5894213cb0f9075140623c2df34a6c056301c8405d9d480eaabdf631cd8203", func := "loop.example/g01113/laws.FnExactIsOnlyGrid", spec := "fnExactIsOnlyGrid", unfollowed := true, recurses := true, apart := false, narrowed := true }
def FnExactIsOnlyGridUptoSaid : Prop := fnExactIsOnlyGridUptoRow.holds Try.pinned (OpenSpec.upto fnExactIsOnlyGridSpec)

/-- 'laws.FnExactTurnGrid', WHERE WHAT IT READS IS OF BULK AT MOST 1048576: true; the input reads as it did. -/
def fnExactTurnGridUptoRow : OpenClaim := { program := "ytojcnapdalpnmaa", sum := "ae5894213cb0f9075140623c2df34a6c056301c8405d9d480eaabdf631cd8203", func := "loop.example/g01113/laws.FnExactTurnGrid", spec := "fnExactTurnGrid", unfollowed := true, recurses := true, apart := false, narrowed := true }
def FnExactTurnGridUptoSaid : Prop := fnExactTurnGridUptoRow.holds Try.pinned (OpenSpec.upto fnExactTurnGridSpec)

/-- 'laws.FnExactOppositeGrid', WHERE WHAT IT READS IS OF BULK AT MOST 1048576: true; the input reads as it did. -/
def fnExactOppositeGridUptoRow : OpenClaim := { program := "ytojcnapdalpnmaa", sum := "ae5894213cb0f9075140623c2df34a6c056301c8405d9d480eaabdf631cd8203", func := "loop.example/g01113/laws.FnExactOppositeGrid", spec := "fnExactOppositeGrid", unfollowed := true, recurses := true, apart := false, narrowed := true }
def FnExactOppositeGridUptoSaid : Prop := fnExactOppositeGridUptoRow.holds Try.pinned (OpenSpec.upto fnExactOppositeGridSpec)

/-- 'laws.FnExactSumsOfGrid', WHERE WHAT IT READS IS OF BULK AT MOST 1048576: true; the input reads as it did. -/
def fnExactSumsOfGridUptoRow : OpenClaim := { program := "ytojcnapdalpnmaa", sum := "ae5894213cb0f9075140623c2df34a6c056301c8405d9d480eaabdf631cd8203", func := "loop.example/g01113/laws.FnExactSumsOfGrid", spec := "fnExactSumsOfGrid", unfollowed := true, recurses := true, apart := false, narrowed := true }
def FnExactSumsOfGridUptoSaid : Prop := fnExactSumsOfGridUptoRow.holds Try.pinned (OpenSpec.upto fnExactSumsOfGridSpec)

/-- 'laws.FnExactDoSwitch', WHERE WHAT IT READS IS OF BULK AT MOST 1048576: true; the input reads as it did. -/
def fnExactDoSwitchUptoRow : OpenClaim := { program := "ytojcnapdalpnmaa", sum := "ae5894213cb0f9075140623c2df34a6c056301c8405d9d480eaabdf631cd8203", func := "loop.example/g01113/laws.FnExactDoSwitch", spec := "fnExactDoSwitch", unfollowed := true, recurses := true, apart := false, narrowed := true }
def FnExactDoSwitchUptoSaid : Prop := fnExactDoSwitchUptoRow.holds Try.pinned (OpenSpec.upto fnExactDoSwitchSpec)

/-- 'laws.FnExactGridSwitches', WHERE WHAT IT READS IS OF BULK AT MOST 1048576: true; the input reads as it did. -/
def fnExactGridSwitchesUptoRow : OpenClaim := { program := "ytojcnapdalpnmaa", sum := "ae5894213cb0f9075140623c2df34a6c056301c8405d9d480eaabdf631cd8203", func := "loop.example/g01113/laws.FnExactGridSwitches", spec := "fnExactGridSwitches", unfollowed := true, recurses := true, apart := false, narrowed := true }
def FnExactGridSwitchesUptoSaid : Prop := fnExactGridSwitchesUptoRow.holds Try.pinned (OpenSpec.upto fnExactGridSwitchesSpec)

/-- 'laws.FnExactGridPath', WHERE WHAT IT READS IS OF BULK AT MOST 1048576: true; the input reads as it did. -/
def fnExactGridPathUptoRow : OpenClaim := { program := "ytojcnapdalpnmaa", sum := "ae5894213cb0f9075140623c2df34a6c056301c8405d9d480eaabdf631cd8203", func := "loop.example/g01113/laws.FnExactGridPath", spec := "fnExactGridPath", unfollowed := true, recurses := true, apart := false, narrowed := true }
def FnExactGridPathUptoSaid : Prop := fnExactGridPathUptoRow.holds Try.pinned (OpenSpec.upto fnExactGridPathSpec)

/-- 'laws.FnExactGridRefusal', WHERE WHAT IT READS IS OF BULK AT MOST 1048576: true; the input reads as it did. -/
def fnExactGridRefusalUptoRow : OpenClaim := { program := "ytojcnapdalpnmaa", sum := "ae5894213cb0f9075140623c2df34a6c056301c8405d9d480eaabdf631cd8203", func := "loop.example/g01113/laws.FnExactGridRefusal", spec := "fnExactGridRefusal", unfollowed := true, recurses := true, apart := false, narrowed := true }
def FnExactGridRefusalUptoSaid : Prop := fnExactGridRefusalUptoRow.holds Try.pinned (OpenSpec.upto fnExactGridRefusalSpec)

/-- 'laws.FnExactHasGrid', WHERE WHAT IT READS IS OF BULK AT MOST 1048576: true; the input reads as it did. -/
def fnExactHasGridUptoRow : OpenClaim := { program := "ytojcnapdalpnmaa", sum := "ae5894213cb0f9075140623c2df34a6c056301c8405d9d480eaabdf631cd8203", func := "loop.example/g01113/laws.FnExactHasGrid", spec := "fnExactHasGrid", unfollowed := true, recurses := true, apart := false, narrowed := true }
def FnExactHasGridUptoSaid : Prop := fnExactHasGridUptoRow.holds Try.pinned (OpenSpec.upto fnExactHasGridSpec)

/-- 'laws.FnExactGridOf', WHERE WHAT IT READS IS OF BULK AT MOST 1048576: true; the input reads as it did. -/
def fnExactGridOfUptoRow : OpenClaim := { program := "ytojcnapdalpnmaa", sum := "ae5894213cb0f9075140623c2df34a6c056301c8405d9d480eaabdf631cd8203", func := "loop.example/g01113/laws.FnExactGridOf", spec := "fnExactGridOf", unfollowed := true, recurses := true, apart := false, narrowed := true }
def FnExactGridOfUptoSaid : Prop := fnExactGridOfUptoRow.holds Try.pinned (OpenSpec.upto fnExactGridOfSpec)

/-- 'laws.FnSwitchesKeepSums', WHERE WHAT IT READS IS OF BULK AT MOST 1048576: true; the input reads as it did. -/
def fnSwitchesKeepSumsUptoRow : OpenClaim := { program := "ytojcnapdalpnmaa", sum := "ae5894213cb0f9075140623c2df34a6c056301c8405d9d480eaabdf631cd8203", func := "loop.example/g01113/laws.FnSwitchesKeepSums", spec := "fnSwitchesKeepSums", unfollowed := true, recurses := true, apart := false, narrowed := true }
def FnSwitchesKeepSumsUptoSaid : Prop := fnSwitchesKeepSumsUptoRow.holds Try.pinned (OpenSpec.upto fnSwitchesKeepSumsSpec)

/-- 'laws.FnPathsOfSwitches', WHERE WHAT IT READS IS OF BULK AT MOST 1048576: true; the input reads as it did. -/
def fnPathsOfSwitchesUptoRow : OpenClaim := { program := "ytojcnapdalpnmaa", sum := "ae5894213cb0f9075140623c2df34a6c056301c8405d9d480eaabdf631cd8203", func := "loop.example/g01113/laws.FnPathsOfSwitches", spec := "fnPathsOfSwitches", unfollowed := true, recurses := true, apart := false, narrowed := true }
def FnPathsOfSwitchesUptoSaid : Prop := fnPathsOfSwitchesUptoRow.holds Try.pinned (OpenSpec.upto fnPathsOfSwitchesSpec)

/-- 'laws.FnGridsBuiltOrRefused', WHERE WHAT IT READS IS OF BULK AT MOST 1048576: true; the input reads as it did. -/
def fnGridsBuiltOrRefusedUptoRow : OpenClaim := { program := "ytojcnapdalpnmaa", sum := "ae5894213cb0f9075140623c2df34a6c056301c8405d9d480eaabdf631cd8203", func := "loop.example/g01113/laws.FnGridsBuiltOrRefused", spec := "fnGridsBuiltOrRefused", unfollowed := true, recurses := true, apart := false, narrowed := true }
def FnGridsBuiltOrRefusedUptoSaid : Prop := fnGridsBuiltOrRefusedUptoRow.holds Try.pinned (OpenSpec.upto fnGridsBuiltOrRefusedSpec)

end Rows
end Go.Proofs.Ytojcnapdalpnmaa
