/-
  No cell of these rows narrows 'for every input' (looked for: loops, veiled, ifaces, maps, wideKeys, modest, calm, conditions, laid).
  DERIVED. THE GIVEN ROWS OF THIS SEAT. 4 by the template 'for every input the law returns true; each argument reads behind the call as it read before'; 0 by the template 'total and deterministic' (their statements: YtfmpbflbkochgaaTotals.lean).
  GIVEN WITH THE SEED: the statements are not yours to turn. If you find one false, say at which input.
  Laid BY PROGRAM, IN A SANDBOX (cutbox-rows.mjs): the forced cells as the released guide's own fill.sh prints them over the translation 640f5c6b448583f0… (all of the seat's roots in one cut). By AI agents, Wed Nov 11 2026. No macro, syntax, notation, axiom, sorry.
-/
import Derived.Test.YtfmpbflbkochgaaChecked
import GoSem.Claim
import GoSem.ClaimJoined
import GoSem.ClaimMapViews
import Derived.JoinedTies
import Derived.KernelRfl
namespace Go.Proofs.Ytfmpbflbkochgaa
/- THE CELL 'sum', in the pinned program and in every row, IS THE sha256 OF THE DUMP (.gsa) THAT YtfmpbflbkochgaaProg.lean LOADS. Nothing in Lean hashes anything: it is a label: what it is worth is what the hold of that sum in a sandbox is worth. -/
noncomputable def Try.pinned : Pinned := { name := "ytfmpbflbkochgaa", sum := "640f5c6b448583f05b000c5c527234a230e0e99ca2acbd101f529cc725b853db", checked := Try.checked }
namespace Rows
def none {H : Type} : Left H := { results := [], args := [] }

/-- 'laws.FnExactAreScores': WHATEVER THE INPUT: true; the input reads as it did. -/
def fnExactAreScoresSpec : ChangeSpec := { name := "fnExactAreScores", fn := fun _ => fun
  | [d] => { results := [.lit (.bool true)], args := [d] }
  | _ => none }
def fnExactAreScoresRow : OpenClaim := { program := "ytfmpbflbkochgaa", sum := "640f5c6b448583f05b000c5c527234a230e0e99ca2acbd101f529cc725b853db", func := "loop.example/g01113/laws.FnExactAreScores", spec := "fnExactAreScores", unfollowed := true, recurses := true, apart := false }
def FnExactAreScoresSaid : Prop := fnExactAreScoresRow.holds Try.pinned (OpenSpec.ofChange fnExactAreScoresSpec)

/-- ITS FALSE NEIGHBOUR: 'it returns false'. Refute it at one input. -/
def fnExactAreScoresWrong : ChangeSpec := { name := "fnExactAreScores", fn := fun _ => fun
  | [d] => { results := [.lit (.bool false)], args := [d] }
  | _ => none }
def FnExactAreScoresWrongFalsely : Prop := fnExactAreScoresRow.holds Try.pinned (OpenSpec.ofChange fnExactAreScoresWrong)

/-- 'laws.FnExactRefusingScores': WHATEVER THE INPUT: true; the input reads as it did. -/
def fnExactRefusingScoresSpec : ChangeSpec := { name := "fnExactRefusingScores", fn := fun _ => fun
  | [d] => { results := [.lit (.bool true)], args := [d] }
  | _ => none }
def fnExactRefusingScoresRow : OpenClaim := { program := "ytfmpbflbkochgaa", sum := "640f5c6b448583f05b000c5c527234a230e0e99ca2acbd101f529cc725b853db", func := "loop.example/g01113/laws.FnExactRefusingScores", spec := "fnExactRefusingScores", unfollowed := true, recurses := true, apart := false }
def FnExactRefusingScoresSaid : Prop := fnExactRefusingScoresRow.holds Try.pinned (OpenSpec.ofChange fnExactRefusingScoresSpec)

/-- ITS FALSE NEIGHBOUR: 'it returns false'. Refute it at one input. -/
def fnExactRefusingScoresWrong : ChangeSpec := { name := "fnExactRefusingScores", fn := fun _ => fun
  | [d] => { results := [.lit (.bool false)], args := [d] }
  | _ => none }
def FnExactRefusingScoresWrongFalsely : Prop := fnExactRefusingScoresRow.holds Try.pinned (OpenSpec.ofChange fnExactRefusingScoresWrong)

/-- 'laws.FnExactCountCircles': WHATEVER THE INPUT: true; the input reads as it did. -/
def fnExactCountCirclesSpec : ChangeSpec := { name := "fnExactCountCircles", fn := fun _ => fun
  | [d] => { results := [.lit (.bool true)], args := [d] }
  | _ => none }
def fnExactCountCirclesRow : OpenClaim := { program := "ytfmpbflbkochgaa", sum := "640f5c6b448583f05b000c5c527234a230e0e99ca2acbd101f529cc725b853db", func := "loop.example/g01113/laws.FnExactCountCircles", spec := "fnExactCountCircles", unfollowed := true, recurses := true, apart := false }
def FnExactCountCirclesSaid : Prop := fnExactCountCirclesRow.holds Try.pinned (OpenSpec.ofChange fnExactCountCirclesSpec)

/-- ITS FALSE NEIGHBOUR: 'it returns false'. Refute it at one input. -/
def fnExactCountCirclesWrong : ChangeSpec := { name := "fnExactCountCircles", fn := fun _ => fun
  | [d] => { results := [.lit (.bool false)], args := [d] }
  | _ => none }
def FnExactCountCirclesWrongFalsely : Prop := fnExactCountCirclesRow.holds Try.pinned (OpenSpec.ofChange fnExactCountCirclesWrong)

/-- 'laws.FnExactStrongParts': WHATEVER THE INPUT: true; the input reads as it did. -/
def fnExactStrongPartsSpec : ChangeSpec := { name := "fnExactStrongParts", fn := fun _ => fun
  | [d] => { results := [.lit (.bool true)], args := [d] }
  | _ => none }
def fnExactStrongPartsRow : OpenClaim := { program := "ytfmpbflbkochgaa", sum := "640f5c6b448583f05b000c5c527234a230e0e99ca2acbd101f529cc725b853db", func := "loop.example/g01113/laws.FnExactStrongParts", spec := "fnExactStrongParts", unfollowed := true, recurses := true, apart := false }
def FnExactStrongPartsSaid : Prop := fnExactStrongPartsRow.holds Try.pinned (OpenSpec.ofChange fnExactStrongPartsSpec)

/-- ITS FALSE NEIGHBOUR: 'it returns false'. Refute it at one input. -/
def fnExactStrongPartsWrong : ChangeSpec := { name := "fnExactStrongParts", fn := fun _ => fun
  | [d] => { results := [.lit (.bool false)], args := [d] }
  | _ => none }
def FnExactStrongPartsWrongFalsely : Prop := fnExactStrongPartsRow.holds Try.pinned (OpenSpec.ofChange fnExactStrongPartsWrong)

/- THE SECOND FORM. 'bulk': how many values and letters a reading holds, each counted each time it is reached (what is shared counts as often as it is met; a slice's spare places count too). A statement '..UptoSaid' is the law's where the arguments, and the package variables that the reading takes, are together of bulk at most 1048576: NARROWER than '..Said'. Prove '..Said' where nothing that the law and all that it calls make is longer than what came in: it says more and counts as full. Else prove '..UptoSaid'. A law counts once. -/
mutual
def uptoBulk {H : Type} : DataW H → Nat
  | .lit (.string bytes) => bytes.length + 1
  | .lit _ => 1
  | .nil => 1
  | .ptr d => uptoBulk d + 1
  | .slice elems spare => uptoBulkAll elems + uptoBulkAll spare + 1
  | .agg parts => uptoBulkAll parts + 1
  | .iface _ d => uptoBulk d + 1
  | .map entries => uptoBulkEntries entries + 1
  | .held _ => 1
def uptoBulkAll {H : Type} : List (DataW H) → Nat
  | [] => 0
  | d :: r => uptoBulk d + uptoBulkAll r
def uptoBulkEntries {H : Type} : List (Lit × DataW H) → Nat
  | [] => 0
  | x :: r => uptoBulkEntry x + uptoBulkEntries r
def uptoBulkEntry {H : Type} : Lit × DataW H → Nat
  | (.string bytes, d) => bytes.length + uptoBulk d + 1
  | (_, d) => uptoBulk d + 1
 end
def uptoSmall : (H : Type) → List (DataW H) → Bool := fun _ ds => decide (uptoBulkAll ds ≤ 1048576)
def OpenSpec.upto (s : _root_.Go.ChangeSpec) : _root_.Go.OpenSpec := { _root_.Go.OpenSpec.ofChange s with cond := some uptoSmall }

/-- 'laws.FnExactAreScores', WHERE WHAT IT READS IS OF BULK AT MOST 1048576: true; the input reads as it did. -/
def fnExactAreScoresUptoRow : OpenClaim := { program := "ytfmpbflbkochgaa", sum := "640f5c6b448583f05b000c5c527234a230e0e99ca2acbd101f529cc725b853db", func := "loop.example/g01113/laws.FnExactAreScores", spec := "fnExactAreScores", unfollowed := true, recurses := true, apart := false, narrowed := true }
def FnExactAreScoresUptoSaid : Prop := fnExactAreScoresUptoRow.holds Try.pinned (OpenSpec.upto fnExactAreScoresSpec)

/-- 'laws.FnExactRefusingScores', WHERE WHAT IT READS IS OF BULK AT MOST 1048576: true; the input reads as it did. -/
def fnExactRefusingScoresUptoRow : OpenClaim := { program := "ytfmpbflbkochgaa", sum := "640f5c6b448583f05b000c5c527234a230e0e99ca2acbd101f529cc725b853db", func := "loop.example/g01113/laws.FnExactRefusingScores", spec := "fnExactRefusingScores", unfollowed := true, recurses := true, apart := false, narrowed := true }
def FnExactRefusingScoresUptoSaid : Prop := fnExactRefusingScoresUptoRow.holds Try.pinned (OpenSpec.upto fnExactRefusingScoresSpec)

/-- 'laws.FnExactCountCircles', WHERE WHAT IT READS IS OF BULK AT MOST 1048576: true; the input reads as it did. -/
def fnExactCountCirclesUptoRow : OpenClaim := { program := "ytfmpbflbkochgaa", sum := "640f5c6b448583f05b000c5c527234a230e0e99ca2acbd101f529cc725b853db", func := "loop.example/g01113/laws.FnExactCountCircles", spec := "fnExactCountCircles", unfollowed := true, recurses := true, apart := false, narrowed := true }
def FnExactCountCirclesUptoSaid : Prop := fnExactCountCirclesUptoRow.holds Try.pinned (OpenSpec.upto fnExactCountCirclesSpec)

/-- 'laws.FnExactStrongParts', WHERE WHAT IT READS IS OF BULK AT MOST 1048576: true; the input reads as it did. -/
def fnExactStrongPartsUptoRow : OpenClaim := { program := "ytfmpbflbkochgaa", sum := "640f5c6b448583f05b000c5c527234a230e0e99ca2acbd101f529cc725b853db", func := "loop.example/g01113/laws.FnExactStrongParts", spec := "fnExactStrongParts", unfollowed := true, recurses := true, apart := false, narrowed := true }
def FnExactStrongPartsUptoSaid : Prop := fnExactStrongPartsUptoRow.holds Try.pinned (OpenSpec.upto fnExactStrongPartsSpec)

end Rows
end Go.Proofs.Ytfmpbflbkochgaa
