/-
  No cell of these rows narrows 'for every input' (looked for: loops, veiled, ifaces, maps, wideKeys, modest, calm, conditions, laid).
  DERIVED. THE GIVEN ROWS OF THIS SEAT. 5 by the template 'for every input the law returns true; each argument reads behind the call as it read before'; 0 by the template 'total and deterministic' (their statements: YtbcbgehdikockaaTotals.lean).
  GIVEN WITH THE SEED: the statements are not yours to turn. If you find one false, say at which input.
  Laid BY PROGRAM, IN A SANDBOX (cutbox-rows.mjs): the forced cells as the released guide's own fill.sh prints them over the translation 789263610148abd3… (all of the seat's roots in one cut). By AI agents, Wed Nov 11 2026. No macro, syntax, notation, axiom, sorry.
-/
import Derived.Test.YtbcbgehdikockaaChecked
import GoSem.Claim
import GoSem.ClaimJoined
import GoSem.ClaimMapViews
import Derived.JoinedTies
import Derived.KernelRfl
namespace Go.Proofs.Ytbcbgehdikockaa
/- THE CELL 'sum', in the pinned program and in every row, IS THE sha256 OF THE DUMP (.gsa) THAT YtbcbgehdikockaaProg.lean LOADS. Nothing in Lean hashes anything: it is a label: what it is worth is what the hold of that sum in a sandbox is worth. -/
noncomputable def Try.pinned : Pinned := { name := "ytbcbgehdikockaa", sum := "789263610148abd308570db81ac4577bac21195f4dd0864e7d45fbe44a6eefe4", checked := Try.checked }
namespace Rows
def none {H : Type} : Left H := { results := [], args := [] }

/-- 'laws.FnExactCirclesOf': WHATEVER THE INPUT: true; the input reads as it did. -/
def fnExactCirclesOfSpec : ChangeSpec := { name := "fnExactCirclesOf", fn := fun _ => fun
  | [d] => { results := [.lit (.bool true)], args := [d] }
  | _ => none }
def fnExactCirclesOfRow : OpenClaim := { program := "ytbcbgehdikockaa", sum := "789263610148abd308570db81ac4577bac21195f4dd0864e7d45fbe44a6eefe4", func := "loop.example/g01113/laws.FnExactCirclesOf", spec := "fnExactCirclesOf", apart := false }
def FnExactCirclesOfSaid : Prop := fnExactCirclesOfRow.holds Try.pinned (OpenSpec.ofChange fnExactCirclesOfSpec)

/-- ITS FALSE NEIGHBOUR: 'it returns false'. Refute it at one input. -/
def fnExactCirclesOfWrong : ChangeSpec := { name := "fnExactCirclesOf", fn := fun _ => fun
  | [d] => { results := [.lit (.bool false)], args := [d] }
  | _ => none }
def FnExactCirclesOfWrongFalsely : Prop := fnExactCirclesOfRow.holds Try.pinned (OpenSpec.ofChange fnExactCirclesOfWrong)

/-- 'laws.FnExactFirstOrder': WHATEVER THE INPUT: true; the input reads as it did. -/
def fnExactFirstOrderSpec : ChangeSpec := { name := "fnExactFirstOrder", fn := fun _ => fun
  | [d] => { results := [.lit (.bool true)], args := [d] }
  | _ => none }
def fnExactFirstOrderRow : OpenClaim := { program := "ytbcbgehdikockaa", sum := "789263610148abd308570db81ac4577bac21195f4dd0864e7d45fbe44a6eefe4", func := "loop.example/g01113/laws.FnExactFirstOrder", spec := "fnExactFirstOrder", unfollowed := true, recurses := true, apart := false }
def FnExactFirstOrderSaid : Prop := fnExactFirstOrderRow.holds Try.pinned (OpenSpec.ofChange fnExactFirstOrderSpec)

/-- ITS FALSE NEIGHBOUR: 'it returns false'. Refute it at one input. -/
def fnExactFirstOrderWrong : ChangeSpec := { name := "fnExactFirstOrder", fn := fun _ => fun
  | [d] => { results := [.lit (.bool false)], args := [d] }
  | _ => none }
def FnExactFirstOrderWrongFalsely : Prop := fnExactFirstOrderRow.holds Try.pinned (OpenSpec.ofChange fnExactFirstOrderWrong)

/-- 'laws.FnExactFirstRound': WHATEVER THE INPUT: true; the input reads as it did. -/
def fnExactFirstRoundSpec : ChangeSpec := { name := "fnExactFirstRound", fn := fun _ => fun
  | [d] => { results := [.lit (.bool true)], args := [d] }
  | _ => none }
def fnExactFirstRoundRow : OpenClaim := { program := "ytbcbgehdikockaa", sum := "789263610148abd308570db81ac4577bac21195f4dd0864e7d45fbe44a6eefe4", func := "loop.example/g01113/laws.FnExactFirstRound", spec := "fnExactFirstRound", unfollowed := true, recurses := true, apart := false }
def FnExactFirstRoundSaid : Prop := fnExactFirstRoundRow.holds Try.pinned (OpenSpec.ofChange fnExactFirstRoundSpec)

/-- ITS FALSE NEIGHBOUR: 'it returns false'. Refute it at one input. -/
def fnExactFirstRoundWrong : ChangeSpec := { name := "fnExactFirstRound", fn := fun _ => fun
  | [d] => { results := [.lit (.bool false)], args := [d] }
  | _ => none }
def FnExactFirstRoundWrongFalsely : Prop := fnExactFirstRoundRow.holds Try.pinned (OpenSpec.ofChange fnExactFirstRoundWrong)

/-- 'laws.FnExactRefusingK': WHATEVER THE INPUT: true; the input reads as it did. -/
def fnExactRefusingKSpec : ChangeSpec := { name := "fnExactRefusingK", fn := fun _ => fun
  | [d] => { results := [.lit (.bool true)], args := [d] }
  | _ => none }
def fnExactRefusingKRow : OpenClaim := { program := "ytbcbgehdikockaa", sum := "789263610148abd308570db81ac4577bac21195f4dd0864e7d45fbe44a6eefe4", func := "loop.example/g01113/laws.FnExactRefusingK", spec := "fnExactRefusingK", unfollowed := true, recurses := true, apart := false }
def FnExactRefusingKSaid : Prop := fnExactRefusingKRow.holds Try.pinned (OpenSpec.ofChange fnExactRefusingKSpec)

/-- ITS FALSE NEIGHBOUR: 'it returns false'. Refute it at one input. -/
def fnExactRefusingKWrong : ChangeSpec := { name := "fnExactRefusingK", fn := fun _ => fun
  | [d] => { results := [.lit (.bool false)], args := [d] }
  | _ => none }
def FnExactRefusingKWrongFalsely : Prop := fnExactRefusingKRow.holds Try.pinned (OpenSpec.ofChange fnExactRefusingKWrong)

/-- 'laws.FnExactIsGraphic': WHATEVER THE INPUT: true; the input reads as it did. -/
def fnExactIsGraphicSpec : ChangeSpec := { name := "fnExactIsGraphic", fn := fun _ => fun
  | [d] => { results := [.lit (.bool true)], args := [d] }
  | _ => none }
def fnExactIsGraphicRow : OpenClaim := { program := "ytbcbgehdikockaa", sum := "789263610148abd308570db81ac4577bac21195f4dd0864e7d45fbe44a6eefe4", func := "loop.example/g01113/laws.FnExactIsGraphic", spec := "fnExactIsGraphic", unfollowed := true, recurses := true, apart := false }
def FnExactIsGraphicSaid : Prop := fnExactIsGraphicRow.holds Try.pinned (OpenSpec.ofChange fnExactIsGraphicSpec)

/-- ITS FALSE NEIGHBOUR: 'it returns false'. Refute it at one input. -/
def fnExactIsGraphicWrong : ChangeSpec := { name := "fnExactIsGraphic", fn := fun _ => fun
  | [d] => { results := [.lit (.bool false)], args := [d] }
  | _ => none }
def FnExactIsGraphicWrongFalsely : Prop := fnExactIsGraphicRow.holds Try.pinned (OpenSpec.ofChange fnExactIsGraphicWrong)

/- THE SECOND FORM. 'bulk': how many values and letters a reading holds, each counted each time it is reached (what is shared counts as often as it is met; a slice's spare places count too). A statement '..UptoSaid' is the law's where the arguments, and the package variables that the reading takes, are together of bulk at most 1048576: NARROWER than '..Said'. Prove '..Said' where nothing that the law and all that it calls make is longer than what came in: it says more and counts as full. Else prove '..UptoSaid'. A law counts once. -/
mutual
def uptoBulk {H : Type} : DataW H → Nat
  | .lit (.string bytes) => bytes.length + 1
  | .lit _ => 1
  | .nil => 1
  | .ptr d => uptoBulk d + 1
  | .slice elems spare => uptoBulkAll elems + uptoBulkAll spare + 1
  | .agg parts => uptoBulkAll parts + 1
  | .iface _ d => uptoBulk d + 1
  | .map entries => uptoBulkEntries entries + 1
  | .held _ => 1
def uptoBulkAll {H : Type} : List (DataW H) → Nat
  | [] => 0
  | d :: r => uptoBulk d + uptoBulkAll r
def uptoBulkEntries {H : Type} : List (Lit × DataW H) → Nat
  | [] => 0
  | x :: r => uptoBulkEntry x + uptoBulkEntries r
def uptoBulkEntry {H : Type} : Lit × DataW H → Nat
  | (.string bytes, d) => bytes.length + uptoBulk d + 1
  | (_, d) => uptoBulk d + 1
 end
def uptoSmall : (H : Type) → List (DataW H) → Bool := fun _ ds => decide (uptoBulkAll ds ≤ 1048576)
def OpenSpec.upto (s : _root_.Go.ChangeSpec) : _root_.Go.OpenSpec := { _root_.Go.OpenSpec.ofChange s with cond := some uptoSmall }

/-- 'laws.FnExactCirclesOf', WHERE WHAT IT READS IS OF BULK AT MOST 1048576: true; the input reads as it did. -/
def fnExactCirclesOfUptoRow : OpenClaim := { program := "ytbcbgehdikockaa", sum := "789263610148abd308570db81ac4577bac21195f4dd0864e7d45fbe44a6eefe4", func := "loop.example/g01113/laws.FnExactCirclesOf", spec := "fnExactCirclesOf", apart := false, narrowed := true }
def FnExactCirclesOfUptoSaid : Prop := fnExactCirclesOfUptoRow.holds Try.pinned (OpenSpec.upto fnExactCirclesOfSpec)

/-- 'laws.FnExactFirstOrder', WHERE WHAT IT READS IS OF BULK AT MOST 1048576: true; the input reads as it did. -/
def fnExactFirstOrderUptoRow : OpenClaim := { program := "ytbcbgehdikockaa", sum := "789263610148abd308570db81ac4577bac21195f4dd0864e7d45fbe44a6eefe4", func := "loop.example/g01113/laws.FnExactFirstOrder", spec := "fnExactFirstOrder", unfollowed := true, recurses := true, apart := false, narrowed := true }
def FnExactFirstOrderUptoSaid : Prop := fnExactFirstOrderUptoRow.holds Try.pinned (OpenSpec.upto fnExactFirstOrderSpec)

/-- 'laws.FnExactFirstRound', WHERE WHAT IT READS IS OF BULK AT MOST 1048576: true; the input reads as it did. -/
def fnExactFirstRoundUptoRow : OpenClaim := { program := "ytbcbgehdikockaa", sum := "789263610148abd308570db81ac4577bac21195f4dd0864e7d45fbe44a6eefe4", func := "loop.example/g01113/laws.FnExactFirstRound", spec := "fnExactFirstRound", unfollowed := true, recurses := true, apart := false, narrowed := true }
def FnExactFirstRoundUptoSaid : Prop := fnExactFirstRoundUptoRow.holds Try.pinned (OpenSpec.upto fnExactFirstRoundSpec)

/-- 'laws.FnExactRefusingK', WHERE WHAT IT READS IS OF BULK AT MOST 1048576: true; the input reads as it did. -/
def fnExactRefusingKUptoRow : OpenClaim := { program := "ytbcbgehdikockaa", sum := "789263610148abd308570db81ac4577bac21195f4dd0864e7d45fbe44a6eefe4", func := "loop.example/g01113/laws.FnExactRefusingK", spec := "fnExactRefusingK", unfollowed := true, recurses := true, apart := false, narrowed := true }
def FnExactRefusingKUptoSaid : Prop := fnExactRefusingKUptoRow.holds Try.pinned (OpenSpec.upto fnExactRefusingKSpec)

/-- 'laws.FnExactIsGraphic', WHERE WHAT IT READS IS OF BULK AT MOST 1048576: true; the input reads as it did. -/
def fnExactIsGraphicUptoRow : OpenClaim := { program := "ytbcbgehdikockaa", sum := "789263610148abd308570db81ac4577bac21195f4dd0864e7d45fbe44a6eefe4", func := "loop.example/g01113/laws.FnExactIsGraphic", spec := "fnExactIsGraphic", unfollowed := true, recurses := true, apart := false, narrowed := true }
def FnExactIsGraphicUptoSaid : Prop := fnExactIsGraphicUptoRow.holds Try.pinned (OpenSpec.upto fnExactIsGraphicSpec)

end Rows
end Go.Proofs.Ytbcbgehdikockaa
