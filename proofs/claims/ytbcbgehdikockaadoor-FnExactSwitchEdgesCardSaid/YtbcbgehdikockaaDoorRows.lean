/-
  NARROWER THAN 'FOR EVERY INPUT', by the rows' own cells (each row's printed sentence says how): FnExactIsGraph: laid · FnExactOppositeGraph: laid · FnExactKingsOf: laid · FnExactDegreesOf: laid · FnExactSwitchEdges: laid · FnExactEdgeSwitches: laid.
  DERIVED. THE GIVEN ROWS OF THIS SEAT. 6 by the template 'for every input the law returns true; each argument reads behind the call as it read before'; 0 by the template 'total and deterministic' (their statements: YtbcbgehdikockaaDoorTotals.lean).
  GIVEN WITH THE SEED: the statements are not yours to turn. If you find one false, say at which input.
  Laid BY PROGRAM, IN A SANDBOX (cutbox-rows.mjs): the forced cells as the released guide's own fill.sh prints them over the translation 9f09c76f36843842… (all of the seat's roots in one cut). By AI agents, Wed Nov 11 2026. No macro, syntax, notation, axiom, sorry.
-/
import Derived.Test.YtbcbgehdikockaaDoorChecked
import GoSem.Claim
import GoSem.ClaimJoined
import GoSem.ClaimMapViews
import Derived.JoinedTies
import Derived.KernelRfl
namespace Go.Proofs.YtbcbgehdikockaaDoor
/- THE CELL 'sum', in the pinned program and in every row, IS THE sha256 OF THE DUMP (.gsa) THAT YtbcbgehdikockaaDoorProg.lean LOADS. Nothing in Lean hashes anything: it is a label: what it is worth is what the hold of that sum in a sandbox is worth. -/
noncomputable def Tryd.pinned : Pinned := { name := "ytbcbgehdikockaadoor", sum := "9f09c76f368438422a3c86bf6a6d7b1006f72416856cd738a803db5fa15d4a30", checked := Tryd.checked }
namespace Rows
def none {H : Type} : Left H := { results := [], args := [] }

/- WHAT THE LISTED PACKAGE-LEVEL VARIABLES READ AS WHEN THE CALL BEGINS. Each datum BY PROGRAM (the guide's laid-datum.mjs) off the statement by which the dump's own 'gosem.cut.vars' lays the variable. In a bare row this is a premise. The card (YtbcbgehdikockaaDoorCards.lean) ties it to the program's text. -/
def laid_math_bits_deBruijn32tab {H : Type} : DataW H := .agg [.lit (.int .u8 0), .lit (.int .u8 1), .lit (.int .u8 28), .lit (.int .u8 2), .lit (.int .u8 29), .lit (.int .u8 14), .lit (.int .u8 24), .lit (.int .u8 3), .lit (.int .u8 30), .lit (.int .u8 22), .lit (.int .u8 20), .lit (.int .u8 15), .lit (.int .u8 25), .lit (.int .u8 17), .lit (.int .u8 4), .lit (.int .u8 8), .lit (.int .u8 31), .lit (.int .u8 27), .lit (.int .u8 13), .lit (.int .u8 23), .lit (.int .u8 21), .lit (.int .u8 19), .lit (.int .u8 16), .lit (.int .u8 7), .lit (.int .u8 26), .lit (.int .u8 12), .lit (.int .u8 18), .lit (.int .u8 6), .lit (.int .u8 11), .lit (.int .u8 5), .lit (.int .u8 10), .lit (.int .u8 9)]
def laid_math_bits_deBruijn64tab {H : Type} : DataW H := .agg [.lit (.int .u8 0), .lit (.int .u8 1), .lit (.int .u8 56), .lit (.int .u8 2), .lit (.int .u8 57), .lit (.int .u8 49), .lit (.int .u8 28), .lit (.int .u8 3), .lit (.int .u8 61), .lit (.int .u8 58), .lit (.int .u8 42), .lit (.int .u8 50), .lit (.int .u8 38), .lit (.int .u8 29), .lit (.int .u8 17), .lit (.int .u8 4), .lit (.int .u8 62), .lit (.int .u8 47), .lit (.int .u8 59), .lit (.int .u8 36), .lit (.int .u8 45), .lit (.int .u8 43), .lit (.int .u8 51), .lit (.int .u8 22), .lit (.int .u8 53), .lit (.int .u8 39), .lit (.int .u8 33), .lit (.int .u8 30), .lit (.int .u8 24), .lit (.int .u8 18), .lit (.int .u8 12), .lit (.int .u8 5), .lit (.int .u8 63), .lit (.int .u8 55), .lit (.int .u8 48), .lit (.int .u8 27), .lit (.int .u8 60), .lit (.int .u8 41), .lit (.int .u8 37), .lit (.int .u8 16), .lit (.int .u8 46), .lit (.int .u8 35), .lit (.int .u8 44), .lit (.int .u8 21), .lit (.int .u8 52), .lit (.int .u8 32), .lit (.int .u8 23), .lit (.int .u8 11), .lit (.int .u8 54), .lit (.int .u8 26), .lit (.int .u8 40), .lit (.int .u8 15), .lit (.int .u8 34), .lit (.int .u8 20), .lit (.int .u8 31), .lit (.int .u8 10), .lit (.int .u8 25), .lit (.int .u8 14), .lit (.int .u8 19), .lit (.int .u8 9), .lit (.int .u8 13), .lit (.int .u8 8), .lit (.int .u8 7), .lit (.int .u8 6)]

/-- 'laws.FnExactIsGraph': WHATEVER THE INPUT: true; the input reads as it did. -/
def fnExactIsGraphSpec : ChangeSpec := { name := "fnExactIsGraph", fn := fun _ => fun
  | [d] => { results := [.lit (.bool true)], args := [d] }
  | _ => none }
def fnExactIsGraphRow : OpenClaim := { program := "ytbcbgehdikockaadoor", sum := "9f09c76f368438422a3c86bf6a6d7b1006f72416856cd738a803db5fa15d4a30", func := "loop.example/g01113/laws.FnExactIsGraph", spec := "fnExactIsGraph", named := ["math/bits.deBruijn32tab", "math/bits.deBruijn64tab"], apart := false, laid := [("math/bits.deBruijn32tab", laid_math_bits_deBruijn32tab), ("math/bits.deBruijn64tab", laid_math_bits_deBruijn64tab)] }
def FnExactIsGraphSaid : Prop := fnExactIsGraphRow.holds Tryd.pinned (OpenSpec.ofChange fnExactIsGraphSpec)

/-- ITS FALSE NEIGHBOUR: 'it returns false'. Refute it at one input. -/
def fnExactIsGraphWrong : ChangeSpec := { name := "fnExactIsGraph", fn := fun _ => fun
  | [d] => { results := [.lit (.bool false)], args := [d] }
  | _ => none }
def FnExactIsGraphWrongFalsely : Prop := fnExactIsGraphRow.holds Tryd.pinned (OpenSpec.ofChange fnExactIsGraphWrong)

/-- 'laws.FnExactOppositeGraph': WHATEVER THE INPUT: true; the input reads as it did. -/
def fnExactOppositeGraphSpec : ChangeSpec := { name := "fnExactOppositeGraph", fn := fun _ => fun
  | [d] => { results := [.lit (.bool true)], args := [d] }
  | _ => none }
def fnExactOppositeGraphRow : OpenClaim := { program := "ytbcbgehdikockaadoor", sum := "9f09c76f368438422a3c86bf6a6d7b1006f72416856cd738a803db5fa15d4a30", func := "loop.example/g01113/laws.FnExactOppositeGraph", spec := "fnExactOppositeGraph", named := ["math/bits.deBruijn32tab", "math/bits.deBruijn64tab"], apart := false, laid := [("math/bits.deBruijn32tab", laid_math_bits_deBruijn32tab), ("math/bits.deBruijn64tab", laid_math_bits_deBruijn64tab)] }
def FnExactOppositeGraphSaid : Prop := fnExactOppositeGraphRow.holds Tryd.pinned (OpenSpec.ofChange fnExactOppositeGraphSpec)

/-- ITS FALSE NEIGHBOUR: 'it returns false'. Refute it at one input. -/
def fnExactOppositeGraphWrong : ChangeSpec := { name := "fnExactOppositeGraph", fn := fun _ => fun
  | [d] => { results := [.lit (.bool false)], args := [d] }
  | _ => none }
def FnExactOppositeGraphWrongFalsely : Prop := fnExactOppositeGraphRow.holds Tryd.pinned (OpenSpec.ofChange fnExactOppositeGraphWrong)

/-- 'laws.FnExactKingsOf': WHATEVER THE INPUT: true; the input reads as it did. -/
def fnExactKingsOfSpec : ChangeSpec := { name := "fnExactKingsOf", fn := fun _ => fun
  | [d] => { results := [.lit (.bool true)], args := [d] }
  | _ => none }
def fnExactKingsOfRow : OpenClaim := { program := "ytbcbgehdikockaadoor", sum := "9f09c76f368438422a3c86bf6a6d7b1006f72416856cd738a803db5fa15d4a30", func := "loop.example/g01113/laws.FnExactKingsOf", spec := "fnExactKingsOf", named := ["math/bits.deBruijn32tab", "math/bits.deBruijn64tab"], apart := false, laid := [("math/bits.deBruijn32tab", laid_math_bits_deBruijn32tab), ("math/bits.deBruijn64tab", laid_math_bits_deBruijn64tab)] }
def FnExactKingsOfSaid : Prop := fnExactKingsOfRow.holds Tryd.pinned (OpenSpec.ofChange fnExactKingsOfSpec)

/-- ITS FALSE NEIGHBOUR: 'it returns false'. Refute it at one input. -/
def fnExactKingsOfWrong : ChangeSpec := { name := "fnExactKingsOf", fn := fun _ => fun
  | [d] => { results := [.lit (.bool false)], args := [d] }
  | _ => none }
def FnExactKingsOfWrongFalsely : Prop := fnExactKingsOfRow.holds Tryd.pinned (OpenSpec.ofChange fnExactKingsOfWrong)

/-- 'laws.FnExactDegreesOf': WHATEVER THE INPUT: true; the input reads as it did. -/
def fnExactDegreesOfSpec : ChangeSpec := { name := "fnExactDegreesOf", fn := fun _ => fun
  | [d] => { results := [.lit (.bool true)], args := [d] }
  | _ => none }
def fnExactDegreesOfRow : OpenClaim := { program := "ytbcbgehdikockaadoor", sum := "9f09c76f368438422a3c86bf6a6d7b1006f72416856cd738a803db5fa15d4a30", func := "loop.example/g01113/laws.FnExactDegreesOf", spec := "fnExactDegreesOf", named := ["math/bits.deBruijn32tab", "math/bits.deBruijn64tab"], apart := false, laid := [("math/bits.deBruijn32tab", laid_math_bits_deBruijn32tab), ("math/bits.deBruijn64tab", laid_math_bits_deBruijn64tab)] }
def FnExactDegreesOfSaid : Prop := fnExactDegreesOfRow.holds Tryd.pinned (OpenSpec.ofChange fnExactDegreesOfSpec)

/-- ITS FALSE NEIGHBOUR: 'it returns false'. Refute it at one input. -/
def fnExactDegreesOfWrong : ChangeSpec := { name := "fnExactDegreesOf", fn := fun _ => fun
  | [d] => { results := [.lit (.bool false)], args := [d] }
  | _ => none }
def FnExactDegreesOfWrongFalsely : Prop := fnExactDegreesOfRow.holds Tryd.pinned (OpenSpec.ofChange fnExactDegreesOfWrong)

/-- 'laws.FnExactSwitchEdges': WHATEVER THE INPUT: true; the input reads as it did. -/
def fnExactSwitchEdgesSpec : ChangeSpec := { name := "fnExactSwitchEdges", fn := fun _ => fun
  | [d1, d2] => { results := [.lit (.bool true)], args := [d1, d2] }
  | _ => none }
def fnExactSwitchEdgesRow : OpenClaim := { program := "ytbcbgehdikockaadoor", sum := "9f09c76f368438422a3c86bf6a6d7b1006f72416856cd738a803db5fa15d4a30", func := "loop.example/g01113/laws.FnExactSwitchEdges", spec := "fnExactSwitchEdges", named := ["math/bits.deBruijn32tab", "math/bits.deBruijn64tab"], apart := false, laid := [("math/bits.deBruijn32tab", laid_math_bits_deBruijn32tab), ("math/bits.deBruijn64tab", laid_math_bits_deBruijn64tab)] }
def FnExactSwitchEdgesSaid : Prop := fnExactSwitchEdgesRow.holds Tryd.pinned (OpenSpec.ofChange fnExactSwitchEdgesSpec)

/-- ITS FALSE NEIGHBOUR: 'it returns false'. Refute it at one input. -/
def fnExactSwitchEdgesWrong : ChangeSpec := { name := "fnExactSwitchEdges", fn := fun _ => fun
  | [d1, d2] => { results := [.lit (.bool false)], args := [d1, d2] }
  | _ => none }
def FnExactSwitchEdgesWrongFalsely : Prop := fnExactSwitchEdgesRow.holds Tryd.pinned (OpenSpec.ofChange fnExactSwitchEdgesWrong)

/-- 'laws.FnExactEdgeSwitches': WHATEVER THE INPUT: true; the input reads as it did. -/
def fnExactEdgeSwitchesSpec : ChangeSpec := { name := "fnExactEdgeSwitches", fn := fun _ => fun
  | [d] => { results := [.lit (.bool true)], args := [d] }
  | _ => none }
def fnExactEdgeSwitchesRow : OpenClaim := { program := "ytbcbgehdikockaadoor", sum := "9f09c76f368438422a3c86bf6a6d7b1006f72416856cd738a803db5fa15d4a30", func := "loop.example/g01113/laws.FnExactEdgeSwitches", spec := "fnExactEdgeSwitches", named := ["math/bits.deBruijn32tab", "math/bits.deBruijn64tab"], apart := false, laid := [("math/bits.deBruijn32tab", laid_math_bits_deBruijn32tab), ("math/bits.deBruijn64tab", laid_math_bits_deBruijn64tab)] }
def FnExactEdgeSwitchesSaid : Prop := fnExactEdgeSwitchesRow.holds Tryd.pinned (OpenSpec.ofChange fnExactEdgeSwitchesSpec)

/-- ITS FALSE NEIGHBOUR: 'it returns false'. Refute it at one input. -/
def fnExactEdgeSwitchesWrong : ChangeSpec := { name := "fnExactEdgeSwitches", fn := fun _ => fun
  | [d] => { results := [.lit (.bool false)], args := [d] }
  | _ => none }
def FnExactEdgeSwitchesWrongFalsely : Prop := fnExactEdgeSwitchesRow.holds Tryd.pinned (OpenSpec.ofChange fnExactEdgeSwitchesWrong)

/- THE SECOND FORM. 'bulk': how many values and letters a reading holds, each counted each time it is reached (what is shared counts as often as it is met; a slice's spare places count too). A statement '..UptoSaid' is the law's where the arguments, and the package variables that the reading takes, are together of bulk at most 1048576: NARROWER than '..Said'. Prove '..Said' where nothing that the law and all that it calls make is longer than what came in: it says more and counts as full. Else prove '..UptoSaid'. A law counts once. -/
mutual
def uptoBulk {H : Type} : DataW H → Nat
  | .lit (.string bytes) => bytes.length + 1
  | .lit _ => 1
  | .nil => 1
  | .ptr d => uptoBulk d + 1
  | .slice elems spare => uptoBulkAll elems + uptoBulkAll spare + 1
  | .agg parts => uptoBulkAll parts + 1
  | .iface _ d => uptoBulk d + 1
  | .map entries => uptoBulkEntries entries + 1
  | .held _ => 1
def uptoBulkAll {H : Type} : List (DataW H) → Nat
  | [] => 0
  | d :: r => uptoBulk d + uptoBulkAll r
def uptoBulkEntries {H : Type} : List (Lit × DataW H) → Nat
  | [] => 0
  | x :: r => uptoBulkEntry x + uptoBulkEntries r
def uptoBulkEntry {H : Type} : Lit × DataW H → Nat
  | (.string bytes, d) => bytes.length + uptoBulk d + 1
  | (_, d) => uptoBulk d + 1
 end
def uptoSmall : (H : Type) → List (DataW H) → Bool := fun _ ds => decide (uptoBulkAll ds ≤ 1048576)
def OpenSpec.upto (s : _root_.Go.ChangeSpec) : _root_.Go.OpenSpec := { _root_.Go.OpenSpec.ofChange s with cond := some uptoSmall }

/-- 'laws.FnExactIsGraph', WHERE WHAT IT READS IS OF BULK AT MOST 1048576: true; the input reads as it did. -/
def fnExactIsGraphUptoRow : OpenClaim := { program := "ytbcbgehdikockaadoor", sum := "9f09c76f368438422a3c86bf6a6d7b1006f72416856cd738a803db5fa15d4a30", func := "loop.example/g01113/laws.FnExactIsGraph", spec := "fnExactIsGraph", named := ["math/bits.deBruijn32tab", "math/bits.deBruijn64tab"], apart := false, laid := [("math/bits.deBruijn32tab", laid_math_bits_deBruijn32tab), ("math/bits.deBruijn64tab", laid_math_bits_deBruijn64tab)], narrowed := true }
def FnExactIsGraphUptoSaid : Prop := fnExactIsGraphUptoRow.holds Tryd.pinned (OpenSpec.upto fnExactIsGraphSpec)

/-- 'laws.FnExactOppositeGraph', WHERE WHAT IT READS IS OF BULK AT MOST 1048576: true; the input reads as it did. -/
def fnExactOppositeGraphUptoRow : OpenClaim := { program := "ytbcbgehdikockaadoor", sum := "9f09c76f368438422a3c86bf6a6d7b1006f72416856cd738a803db5fa15d4a30", func := "loop.example/g01113/laws.FnExactOppositeGraph", spec := "fnExactOppositeGraph", named := ["math/bits.deBruijn32tab", "math/bits.deBruijn64tab"], apart := false, laid := [("math/bits.deBruijn32tab", laid_math_bits_deBruijn32tab), ("math/bits.deBruijn64tab", laid_math_bits_deBruijn64tab)], narrowed := true }
def FnExactOppositeGraphUptoSaid : Prop := fnExactOppositeGraphUptoRow.holds Tryd.pinned (OpenSpec.upto fnExactOppositeGraphSpec)

/-- 'laws.FnExactKingsOf', WHERE WHAT IT READS IS OF BULK AT MOST 1048576: true; the input reads as it did. -/
def fnExactKingsOfUptoRow : OpenClaim := { program := "ytbcbgehdikockaadoor", sum := "9f09c76f368438422a3c86bf6a6d7b1006f72416856cd738a803db5fa15d4a30", func := "loop.example/g01113/laws.FnExactKingsOf", spec := "fnExactKingsOf", named := ["math/bits.deBruijn32tab", "math/bits.deBruijn64tab"], apart := false, laid := [("math/bits.deBruijn32tab", laid_math_bits_deBruijn32tab), ("math/bits.deBruijn64tab", laid_math_bits_deBruijn64tab)], narrowed := true }
def FnExactKingsOfUptoSaid : Prop := fnExactKingsOfUptoRow.holds Tryd.pinned (OpenSpec.upto fnExactKingsOfSpec)

/-- 'laws.FnExactDegreesOf', WHERE WHAT IT READS IS OF BULK AT MOST 1048576: true; the input reads as it did. -/
def fnExactDegreesOfUptoRow : OpenClaim := { program := "ytbcbgehdikockaadoor", sum := "9f09c76f368438422a3c86bf6a6d7b1006f72416856cd738a803db5fa15d4a30", func := "loop.example/g01113/laws.FnExactDegreesOf", spec := "fnExactDegreesOf", named := ["math/bits.deBruijn32tab", "math/bits.deBruijn64tab"], apart := false, laid := [("math/bits.deBruijn32tab", laid_math_bits_deBruijn32tab), ("math/bits.deBruijn64tab", laid_math_bits_deBruijn64tab)], narrowed := true }
def FnExactDegreesOfUptoSaid : Prop := fnExactDegreesOfUptoRow.holds Tryd.pinned (OpenSpec.upto fnExactDegreesOfSpec)

/-- 'laws.FnExactSwitchEdges', WHERE WHAT IT READS IS OF BULK AT MOST 1048576: true; the input reads as it did. -/
def fnExactSwitchEdgesUptoRow : OpenClaim := { program := "ytbcbgehdikockaadoor", sum := "9f09c76f368438422a3c86bf6a6d7b1006f72416856cd738a803db5fa15d4a30", func := "loop.example/g01113/laws.FnExactSwitchEdges", spec := "fnExactSwitchEdges", named := ["math/bits.deBruijn32tab", "math/bits.deBruijn64tab"], apart := false, laid := [("math/bits.deBruijn32tab", laid_math_bits_deBruijn32tab), ("math/bits.deBruijn64tab", laid_math_bits_deBruijn64tab)], narrowed := true }
def FnExactSwitchEdgesUptoSaid : Prop := fnExactSwitchEdgesUptoRow.holds Tryd.pinned (OpenSpec.upto fnExactSwitchEdgesSpec)

/-- 'laws.FnExactEdgeSwitches', WHERE WHAT IT READS IS OF BULK AT MOST 1048576: true; the input reads as it did. -/
def fnExactEdgeSwitchesUptoRow : OpenClaim := { program := "ytbcbgehdikockaadoor", sum := "9f09c76f368438422a3c86bf6a6d7b1006f72416856cd738a803db5fa15d4a30", func := "loop.example/g01113/laws.FnExactEdgeSwitches", spec := "fnExactEdgeSwitches", named := ["math/bits.deBruijn32tab", "math/bits.deBruijn64tab"], apart := false, laid := [("math/bits.deBruijn32tab", laid_math_bits_deBruijn32tab), ("math/bits.deBruijn64tab", laid_math_bits_deBruijn64tab)], narrowed := true }
def FnExactEdgeSwitchesUptoSaid : Prop := fnExactEdgeSwitchesUptoRow.holds Tryd.pinned (OpenSpec.upto fnExactEdgeSwitchesSpec)

end Rows
end Go.Proofs.YtbcbgehdikockaaDoor
