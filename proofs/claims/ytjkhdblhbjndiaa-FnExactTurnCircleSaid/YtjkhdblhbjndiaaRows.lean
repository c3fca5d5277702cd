/-
  No cell of these rows narrows 'for every input' (looked for: loops, veiled, ifaces, maps, wideKeys, modest, calm, conditions, laid).
  DERIVED. THE GIVEN ROWS OF THIS SEAT. 20 by the template 'for every input the law returns true; each argument reads behind the call as it read before'; 0 by the template 'total and deterministic' (their statements: YtjkhdblhbjndiaaTotals.lean).
  GIVEN WITH THE SEED: the statements are not yours to turn. If you find one false, say at which input.
  Laid BY PROGRAM, IN A SANDBOX (cutbox-rows.mjs): the forced cells as the released guide's own fill.sh prints them over the translation 61b85884e3137e78… (all of the seat's roots in one cut). By AI agents, Wed Nov 11 2026. No macro, syntax, notation, axiom, sorry.
-/
import Derived.Test.YtjkhdblhbjndiaaChecked
import GoSem.Claim
import GoSem.ClaimJoined
import GoSem.ClaimMapViews
import Derived.JoinedTies
import Derived.KernelRfl
namespace Go.Proofs.Ytjkhdblhbjndiaa
/- THE CELL 'sum', in the pinned program and in every row, IS THE sha256 OF THE DUMP (.gsa) THAT YtjkhdblhbjndiaaProg.lean LOADS. Nothing in Lean hashes anything: it is a label: what it is worth is what the hold of that sum in a sandbox is worth. -/
noncomputable def Try.pinned : Pinned := { name := "ytjkhdblhbjndiaa", sum := "61b85884e3137e78c34684085c20510f11801726f7a5ed313a764f212bb9c698", checked := Try.checked }
namespace Rows
def none {H : Type} : Left H := { results := [], args := [] }

/-- 'laws.FnExactConvexSum': WHATEVER THE INPUT: true; the input reads as it did. -/
def fnExactConvexSumSpec : ChangeSpec := { name := "fnExactConvexSum", fn := fun _ => fun
  | [d1, d2] => { results := [.lit (.bool true)], args := [d1, d2] }
  | _ => none }
def fnExactConvexSumRow : OpenClaim := { program := "ytjkhdblhbjndiaa", sum := "61b85884e3137e78c34684085c20510f11801726f7a5ed313a764f212bb9c698", func := "loop.example/g01113/laws.FnExactConvexSum", spec := "fnExactConvexSum", plainKeys := false, apart := false }
def FnExactConvexSumSaid : Prop := fnExactConvexSumRow.holds Try.pinned (OpenSpec.ofChange fnExactConvexSumSpec)

/-- ITS FALSE NEIGHBOUR: 'it returns false'. Refute it at one input. -/
def fnExactConvexSumWrong : ChangeSpec := { name := "fnExactConvexSum", fn := fun _ => fun
  | [d1, d2] => { results := [.lit (.bool false)], args := [d1, d2] }
  | _ => none }
def FnExactConvexSumWrongFalsely : Prop := fnExactConvexSumRow.holds Try.pinned (OpenSpec.ofChange fnExactConvexSumWrong)

/-- 'laws.FnExactArrangedSum': WHATEVER THE INPUT: true; the input reads as it did. -/
def fnExactArrangedSumSpec : ChangeSpec := { name := "fnExactArrangedSum", fn := fun _ => fun
  | [d1, d2] => { results := [.lit (.bool true)], args := [d1, d2] }
  | _ => none }
def fnExactArrangedSumRow : OpenClaim := { program := "ytjkhdblhbjndiaa", sum := "61b85884e3137e78c34684085c20510f11801726f7a5ed313a764f212bb9c698", func := "loop.example/g01113/laws.FnExactArrangedSum", spec := "fnExactArrangedSum", plainKeys := false, apart := false }
def FnExactArrangedSumSaid : Prop := fnExactArrangedSumRow.holds Try.pinned (OpenSpec.ofChange fnExactArrangedSumSpec)

/-- ITS FALSE NEIGHBOUR: 'it returns false'. Refute it at one input. -/
def fnExactArrangedSumWrong : ChangeSpec := { name := "fnExactArrangedSum", fn := fun _ => fun
  | [d1, d2] => { results := [.lit (.bool false)], args := [d1, d2] }
  | _ => none }
def FnExactArrangedSumWrongFalsely : Prop := fnExactArrangedSumRow.holds Try.pinned (OpenSpec.ofChange fnExactArrangedSumWrong)

/-- 'laws.FnExactExcessOver': WHATEVER THE INPUT: true; the input reads as it did. -/
def fnExactExcessOverSpec : ChangeSpec := { name := "fnExactExcessOver", fn := fun _ => fun
  | [d1, d2] => { results := [.lit (.bool true)], args := [d1, d2] }
  | _ => none }
def fnExactExcessOverRow : OpenClaim := { program := "ytjkhdblhbjndiaa", sum := "61b85884e3137e78c34684085c20510f11801726f7a5ed313a764f212bb9c698", func := "loop.example/g01113/laws.FnExactExcessOver", spec := "fnExactExcessOver", plainKeys := false, apart := false }
def FnExactExcessOverSaid : Prop := fnExactExcessOverRow.holds Try.pinned (OpenSpec.ofChange fnExactExcessOverSpec)

/-- ITS FALSE NEIGHBOUR: 'it returns false'. Refute it at one input. -/
def fnExactExcessOverWrong : ChangeSpec := { name := "fnExactExcessOver", fn := fun _ => fun
  | [d1, d2] => { results := [.lit (.bool false)], args := [d1, d2] }
  | _ => none }
def FnExactExcessOverWrongFalsely : Prop := fnExactExcessOverRow.holds Try.pinned (OpenSpec.ofChange fnExactExcessOverWrong)

/-- 'laws.FnExactIsTournament': WHATEVER THE INPUT: true; the input reads as it did. -/
def fnExactIsTournamentSpec : ChangeSpec := { name := "fnExactIsTournament", fn := fun _ => fun
  | [d] => { results := [.lit (.bool true)], args := [d] }
  | _ => none }
def fnExactIsTournamentRow : OpenClaim := { program := "ytjkhdblhbjndiaa", sum := "61b85884e3137e78c34684085c20510f11801726f7a5ed313a764f212bb9c698", func := "loop.example/g01113/laws.FnExactIsTournament", spec := "fnExactIsTournament", plainKeys := false, apart := false }
def FnExactIsTournamentSaid : Prop := fnExactIsTournamentRow.holds Try.pinned (OpenSpec.ofChange fnExactIsTournamentSpec)

/-- ITS FALSE NEIGHBOUR: 'it returns false'. Refute it at one input. -/
def fnExactIsTournamentWrong : ChangeSpec := { name := "fnExactIsTournament", fn := fun _ => fun
  | [d] => { results := [.lit (.bool false)], args := [d] }
  | _ => none }
def FnExactIsTournamentWrongFalsely : Prop := fnExactIsTournamentRow.holds Try.pinned (OpenSpec.ofChange fnExactIsTournamentWrong)

/-- 'laws.FnExactMirrorTournament': WHATEVER THE INPUT: true; the input reads as it did. -/
def fnExactMirrorTournamentSpec : ChangeSpec := { name := "fnExactMirrorTournament", fn := fun _ => fun
  | [d] => { results := [.lit (.bool true)], args := [d] }
  | _ => none }
def fnExactMirrorTournamentRow : OpenClaim := { program := "ytjkhdblhbjndiaa", sum := "61b85884e3137e78c34684085c20510f11801726f7a5ed313a764f212bb9c698", func := "loop.example/g01113/laws.FnExactMirrorTournament", spec := "fnExactMirrorTournament", plainKeys := false, apart := false }
def FnExactMirrorTournamentSaid : Prop := fnExactMirrorTournamentRow.holds Try.pinned (OpenSpec.ofChange fnExactMirrorTournamentSpec)

/-- ITS FALSE NEIGHBOUR: 'it returns false'. Refute it at one input. -/
def fnExactMirrorTournamentWrong : ChangeSpec := { name := "fnExactMirrorTournament", fn := fun _ => fun
  | [d] => { results := [.lit (.bool false)], args := [d] }
  | _ => none }
def FnExactMirrorTournamentWrongFalsely : Prop := fnExactMirrorTournamentRow.holds Try.pinned (OpenSpec.ofChange fnExactMirrorTournamentWrong)

/-- 'laws.FnExactTurnCircle': WHATEVER THE INPUT: true; the input reads as it did. -/
def fnExactTurnCircleSpec : ChangeSpec := { name := "fnExactTurnCircle", fn := fun _ => fun
  | [d1, d2, d3, d4] => { results := [.lit (.bool true)], args := [d1, d2, d3, d4] }
  | _ => none }
def fnExactTurnCircleRow : OpenClaim := { program := "ytjkhdblhbjndiaa", sum := "61b85884e3137e78c34684085c20510f11801726f7a5ed313a764f212bb9c698", func := "loop.example/g01113/laws.FnExactTurnCircle", spec := "fnExactTurnCircle", plainKeys := false, apart := false }
def FnExactTurnCircleSaid : Prop := fnExactTurnCircleRow.holds Try.pinned (OpenSpec.ofChange fnExactTurnCircleSpec)

/-- ITS FALSE NEIGHBOUR: 'it returns false'. Refute it at one input. -/
def fnExactTurnCircleWrong : ChangeSpec := { name := "fnExactTurnCircle", fn := fun _ => fun
  | [d1, d2, d3, d4] => { results := [.lit (.bool false)], args := [d1, d2, d3, d4] }
  | _ => none }
def FnExactTurnCircleWrongFalsely : Prop := fnExactTurnCircleRow.holds Try.pinned (OpenSpec.ofChange fnExactTurnCircleWrong)

/-- 'laws.FnExactScoresOf': WHATEVER THE INPUT: true; the input reads as it did. -/
def fnExactScoresOfSpec : ChangeSpec := { name := "fnExactScoresOf", fn := fun _ => fun
  | [d] => { results := [.lit (.bool true)], args := [d] }
  | _ => none }
def fnExactScoresOfRow : OpenClaim := { program := "ytjkhdblhbjndiaa", sum := "61b85884e3137e78c34684085c20510f11801726f7a5ed313a764f212bb9c698", func := "loop.example/g01113/laws.FnExactScoresOf", spec := "fnExactScoresOf", plainKeys := false, apart := false }
def FnExactScoresOfSaid : Prop := fnExactScoresOfRow.holds Try.pinned (OpenSpec.ofChange fnExactScoresOfSpec)

/-- ITS FALSE NEIGHBOUR: 'it returns false'. Refute it at one input. -/
def fnExactScoresOfWrong : ChangeSpec := { name := "fnExactScoresOf", fn := fun _ => fun
  | [d] => { results := [.lit (.bool false)], args := [d] }
  | _ => none }
def FnExactScoresOfWrongFalsely : Prop := fnExactScoresOfRow.holds Try.pinned (OpenSpec.ofChange fnExactScoresOfWrong)

/-- 'laws.FnExactCirclesOf': WHATEVER THE INPUT: true; the input reads as it did. -/
def fnExactCirclesOfSpec : ChangeSpec := { name := "fnExactCirclesOf", fn := fun _ => fun
  | [d] => { results := [.lit (.bool true)], args := [d] }
  | _ => none }
def fnExactCirclesOfRow : OpenClaim := { program := "ytjkhdblhbjndiaa", sum := "61b85884e3137e78c34684085c20510f11801726f7a5ed313a764f212bb9c698", func := "loop.example/g01113/laws.FnExactCirclesOf", spec := "fnExactCirclesOf", plainKeys := false, apart := false }
def FnExactCirclesOfSaid : Prop := fnExactCirclesOfRow.holds Try.pinned (OpenSpec.ofChange fnExactCirclesOfSpec)

/-- ITS FALSE NEIGHBOUR: 'it returns false'. Refute it at one input. -/
def fnExactCirclesOfWrong : ChangeSpec := { name := "fnExactCirclesOf", fn := fun _ => fun
  | [d] => { results := [.lit (.bool false)], args := [d] }
  | _ => none }
def FnExactCirclesOfWrongFalsely : Prop := fnExactCirclesOfRow.holds Try.pinned (OpenSpec.ofChange fnExactCirclesOfWrong)

/-- 'laws.FnExactFirstOrder': WHATEVER THE INPUT: true; the input reads as it did. -/
def fnExactFirstOrderSpec : ChangeSpec := { name := "fnExactFirstOrder", fn := fun _ => fun
  | [d] => { results := [.lit (.bool true)], args := [d] }
  | _ => none }
def fnExactFirstOrderRow : OpenClaim := { program := "ytjkhdblhbjndiaa", sum := "61b85884e3137e78c34684085c20510f11801726f7a5ed313a764f212bb9c698", func := "loop.example/g01113/laws.FnExactFirstOrder", spec := "fnExactFirstOrder", unfollowed := true, recurses := true, plainKeys := false, apart := false }
def FnExactFirstOrderSaid : Prop := fnExactFirstOrderRow.holds Try.pinned (OpenSpec.ofChange fnExactFirstOrderSpec)

/-- ITS FALSE NEIGHBOUR: 'it returns false'. Refute it at one input. -/
def fnExactFirstOrderWrong : ChangeSpec := { name := "fnExactFirstOrder", fn := fun _ => fun
  | [d] => { results := [.lit (.bool false)], args := [d] }
  | _ => none }
def FnExactFirstOrderWrongFalsely : Prop := fnExactFirstOrderRow.holds Try.pinned (OpenSpec.ofChange fnExactFirstOrderWrong)

/-- 'laws.FnExactFirstRound': WHATEVER THE INPUT: true; the input reads as it did. -/
def fnExactFirstRoundSpec : ChangeSpec := { name := "fnExactFirstRound", fn := fun _ => fun
  | [d] => { results := [.lit (.bool true)], args := [d] }
  | _ => none }
def fnExactFirstRoundRow : OpenClaim := { program := "ytjkhdblhbjndiaa", sum := "61b85884e3137e78c34684085c20510f11801726f7a5ed313a764f212bb9c698", func := "loop.example/g01113/laws.FnExactFirstRound", spec := "fnExactFirstRound", unfollowed := true, recurses := true, plainKeys := false, apart := false }
def FnExactFirstRoundSaid : Prop := fnExactFirstRoundRow.holds Try.pinned (OpenSpec.ofChange fnExactFirstRoundSpec)

/-- ITS FALSE NEIGHBOUR: 'it returns false'. Refute it at one input. -/
def fnExactFirstRoundWrong : ChangeSpec := { name := "fnExactFirstRound", fn := fun _ => fun
  | [d] => { results := [.lit (.bool false)], args := [d] }
  | _ => none }
def FnExactFirstRoundWrongFalsely : Prop := fnExactFirstRoundRow.holds Try.pinned (OpenSpec.ofChange fnExactFirstRoundWrong)

/-- 'laws.FnExactTournamentsOf': WHATEVER THE INPUT: true; the input reads as it did. -/
def fnExactTournamentsOfSpec : ChangeSpec := { name := "fnExactTournamentsOf", fn := fun _ => fun
  | [d] => { results := [.lit (.bool true)], args := [d] }
  | _ => none }
def fnExactTournamentsOfRow : OpenClaim := { program := "ytjkhdblhbjndiaa", sum := "61b85884e3137e78c34684085c20510f11801726f7a5ed313a764f212bb9c698", func := "loop.example/g01113/laws.FnExactTournamentsOf", spec := "fnExactTournamentsOf", unfollowed := true, recurses := true, plainKeys := false, apart := false }
def FnExactTournamentsOfSaid : Prop := fnExactTournamentsOfRow.holds Try.pinned (OpenSpec.ofChange fnExactTournamentsOfSpec)

/-- ITS FALSE NEIGHBOUR: 'it returns false'. Refute it at one input. -/
def fnExactTournamentsOfWrong : ChangeSpec := { name := "fnExactTournamentsOf", fn := fun _ => fun
  | [d] => { results := [.lit (.bool false)], args := [d] }
  | _ => none }
def FnExactTournamentsOfWrongFalsely : Prop := fnExactTournamentsOfRow.holds Try.pinned (OpenSpec.ofChange fnExactTournamentsOfWrong)

/-- 'laws.FnExactTurnPath': WHATEVER THE INPUT: true; the input reads as it did. -/
def fnExactTurnPathSpec : ChangeSpec := { name := "fnExactTurnPath", fn := fun _ => fun
  | [d1, d2] => { results := [.lit (.bool true)], args := [d1, d2] }
  | _ => none }
def fnExactTurnPathRow : OpenClaim := { program := "ytjkhdblhbjndiaa", sum := "61b85884e3137e78c34684085c20510f11801726f7a5ed313a764f212bb9c698", func := "loop.example/g01113/laws.FnExactTurnPath", spec := "fnExactTurnPath", unfollowed := true, recurses := true, plainKeys := false, apart := false }
def FnExactTurnPathSaid : Prop := fnExactTurnPathRow.holds Try.pinned (OpenSpec.ofChange fnExactTurnPathSpec)

/-- ITS FALSE NEIGHBOUR: 'it returns false'. Refute it at one input. -/
def fnExactTurnPathWrong : ChangeSpec := { name := "fnExactTurnPath", fn := fun _ => fun
  | [d1, d2] => { results := [.lit (.bool false)], args := [d1, d2] }
  | _ => none }
def FnExactTurnPathWrongFalsely : Prop := fnExactTurnPathRow.holds Try.pinned (OpenSpec.ofChange fnExactTurnPathWrong)

/-- 'laws.FnExactAreScores': WHATEVER THE INPUT: true; the input reads as it did. -/
def fnExactAreScoresSpec : ChangeSpec := { name := "fnExactAreScores", fn := fun _ => fun
  | [d] => { results := [.lit (.bool true)], args := [d] }
  | _ => none }
def fnExactAreScoresRow : OpenClaim := { program := "ytjkhdblhbjndiaa", sum := "61b85884e3137e78c34684085c20510f11801726f7a5ed313a764f212bb9c698", func := "loop.example/g01113/laws.FnExactAreScores", spec := "fnExactAreScores", unfollowed := true, recurses := true, plainKeys := false, apart := false }
def FnExactAreScoresSaid : Prop := fnExactAreScoresRow.holds Try.pinned (OpenSpec.ofChange fnExactAreScoresSpec)

/-- ITS FALSE NEIGHBOUR: 'it returns false'. Refute it at one input. -/
def fnExactAreScoresWrong : ChangeSpec := { name := "fnExactAreScores", fn := fun _ => fun
  | [d] => { results := [.lit (.bool false)], args := [d] }
  | _ => none }
def FnExactAreScoresWrongFalsely : Prop := fnExactAreScoresRow.holds Try.pinned (OpenSpec.ofChange fnExactAreScoresWrong)

/-- 'laws.FnExactRefusingScores': WHATEVER THE INPUT: true; the input reads as it did. -/
def fnExactRefusingScoresSpec : ChangeSpec := { name := "fnExactRefusingScores", fn := fun _ => fun
  | [d] => { results := [.lit (.bool true)], args := [d] }
  | _ => none }
def fnExactRefusingScoresRow : OpenClaim := { program := "ytjkhdblhbjndiaa", sum := "61b85884e3137e78c34684085c20510f11801726f7a5ed313a764f212bb9c698", func := "loop.example/g01113/laws.FnExactRefusingScores", spec := "fnExactRefusingScores", unfollowed := true, recurses := true, plainKeys := false, apart := false }
def FnExactRefusingScoresSaid : Prop := fnExactRefusingScoresRow.holds Try.pinned (OpenSpec.ofChange fnExactRefusingScoresSpec)

/-- ITS FALSE NEIGHBOUR: 'it returns false'. Refute it at one input. -/
def fnExactRefusingScoresWrong : ChangeSpec := { name := "fnExactRefusingScores", fn := fun _ => fun
  | [d] => { results := [.lit (.bool false)], args := [d] }
  | _ => none }
def FnExactRefusingScoresWrongFalsely : Prop := fnExactRefusingScoresRow.holds Try.pinned (OpenSpec.ofChange fnExactRefusingScoresWrong)

/-- 'laws.FnExactCountCircles': WHATEVER THE INPUT: true; the input reads as it did. -/
def fnExactCountCirclesSpec : ChangeSpec := { name := "fnExactCountCircles", fn := fun _ => fun
  | [d] => { results := [.lit (.bool true)], args := [d] }
  | _ => none }
def fnExactCountCirclesRow : OpenClaim := { program := "ytjkhdblhbjndiaa", sum := "61b85884e3137e78c34684085c20510f11801726f7a5ed313a764f212bb9c698", func := "loop.example/g01113/laws.FnExactCountCircles", spec := "fnExactCountCircles", unfollowed := true, recurses := true, plainKeys := false, apart := false }
def FnExactCountCirclesSaid : Prop := fnExactCountCirclesRow.holds Try.pinned (OpenSpec.ofChange fnExactCountCirclesSpec)

/-- ITS FALSE NEIGHBOUR: 'it returns false'. Refute it at one input. -/
def fnExactCountCirclesWrong : ChangeSpec := { name := "fnExactCountCircles", fn := fun _ => fun
  | [d] => { results := [.lit (.bool false)], args := [d] }
  | _ => none }
def FnExactCountCirclesWrongFalsely : Prop := fnExactCountCirclesRow.holds Try.pinned (OpenSpec.ofChange fnExactCountCirclesWrong)

/-- 'laws.FnExactStrongParts': WHATEVER THE INPUT: true; the input reads as it did. -/
def fnExactStrongPartsSpec : ChangeSpec := { name := "fnExactStrongParts", fn := fun _ => fun
  | [d] => { results := [.lit (.bool true)], args := [d] }
  | _ => none }
def fnExactStrongPartsRow : OpenClaim := { program := "ytjkhdblhbjndiaa", sum := "61b85884e3137e78c34684085c20510f11801726f7a5ed313a764f212bb9c698", func := "loop.example/g01113/laws.FnExactStrongParts", spec := "fnExactStrongParts", unfollowed := true, recurses := true, plainKeys := false, apart := false }
def FnExactStrongPartsSaid : Prop := fnExactStrongPartsRow.holds Try.pinned (OpenSpec.ofChange fnExactStrongPartsSpec)

/-- ITS FALSE NEIGHBOUR: 'it returns false'. Refute it at one input. -/
def fnExactStrongPartsWrong : ChangeSpec := { name := "fnExactStrongParts", fn := fun _ => fun
  | [d] => { results := [.lit (.bool false)], args := [d] }
  | _ => none }
def FnExactStrongPartsWrongFalsely : Prop := fnExactStrongPartsRow.holds Try.pinned (OpenSpec.ofChange fnExactStrongPartsWrong)

/-- 'laws.FnExactBuildTournament': WHATEVER THE INPUT: true; the input reads as it did. -/
def fnExactBuildTournamentSpec : ChangeSpec := { name := "fnExactBuildTournament", fn := fun _ => fun
  | [d] => { results := [.lit (.bool true)], args := [d] }
  | _ => none }
def fnExactBuildTournamentRow : OpenClaim := { program := "ytjkhdblhbjndiaa", sum := "61b85884e3137e78c34684085c20510f11801726f7a5ed313a764f212bb9c698", func := "loop.example/g01113/laws.FnExactBuildTournament", spec := "fnExactBuildTournament", unfollowed := true, recurses := true, plainKeys := false, apart := false }
def FnExactBuildTournamentSaid : Prop := fnExactBuildTournamentRow.holds Try.pinned (OpenSpec.ofChange fnExactBuildTournamentSpec)

/-- ITS FALSE NEIGHBOUR: 'it returns false'. Refute it at one input. -/
def fnExactBuildTournamentWrong : ChangeSpec := { name := "fnExactBuildTournament", fn := fun _ => fun
  | [d] => { results := [.lit (.bool false)], args := [d] }
  | _ => none }
def FnExactBuildTournamentWrongFalsely : Prop := fnExactBuildTournamentRow.holds Try.pinned (OpenSpec.ofChange fnExactBuildTournamentWrong)

/-- 'laws.FnTournamentsBuilt': WHATEVER THE INPUT: true; the input reads as it did. -/
def fnTournamentsBuiltSpec : ChangeSpec := { name := "fnTournamentsBuilt", fn := fun _ => fun
  | [d1, d2] => { results := [.lit (.bool true)], args := [d1, d2] }
  | _ => none }
def fnTournamentsBuiltRow : OpenClaim := { program := "ytjkhdblhbjndiaa", sum := "61b85884e3137e78c34684085c20510f11801726f7a5ed313a764f212bb9c698", func := "loop.example/g01113/laws.FnTournamentsBuilt", spec := "fnTournamentsBuilt", unfollowed := true, recurses := true, plainKeys := false, apart := false }
def FnTournamentsBuiltSaid : Prop := fnTournamentsBuiltRow.holds Try.pinned (OpenSpec.ofChange fnTournamentsBuiltSpec)

/-- ITS FALSE NEIGHBOUR: 'it returns false'. Refute it at one input. -/
def fnTournamentsBuiltWrong : ChangeSpec := { name := "fnTournamentsBuilt", fn := fun _ => fun
  | [d1, d2] => { results := [.lit (.bool false)], args := [d1, d2] }
  | _ => none }
def FnTournamentsBuiltWrongFalsely : Prop := fnTournamentsBuiltRow.holds Try.pinned (OpenSpec.ofChange fnTournamentsBuiltWrong)

/-- 'laws.FnCirclesTurned': WHATEVER THE INPUT: true; the input reads as it did. -/
def fnCirclesTurnedSpec : ChangeSpec := { name := "fnCirclesTurned", fn := fun _ => fun
  | [d1, d2] => { results := [.lit (.bool true)], args := [d1, d2] }
  | _ => none }
def fnCirclesTurnedRow : OpenClaim := { program := "ytjkhdblhbjndiaa", sum := "61b85884e3137e78c34684085c20510f11801726f7a5ed313a764f212bb9c698", func := "loop.example/g01113/laws.FnCirclesTurned", spec := "fnCirclesTurned", unfollowed := true, recurses := true, plainKeys := false, apart := false }
def FnCirclesTurnedSaid : Prop := fnCirclesTurnedRow.holds Try.pinned (OpenSpec.ofChange fnCirclesTurnedSpec)

/-- ITS FALSE NEIGHBOUR: 'it returns false'. Refute it at one input. -/
def fnCirclesTurnedWrong : ChangeSpec := { name := "fnCirclesTurned", fn := fun _ => fun
  | [d1, d2] => { results := [.lit (.bool false)], args := [d1, d2] }
  | _ => none }
def FnCirclesTurnedWrongFalsely : Prop := fnCirclesTurnedRow.holds Try.pinned (OpenSpec.ofChange fnCirclesTurnedWrong)

/-- 'laws.FnStrongParts': WHATEVER THE INPUT: true; the input reads as it did. -/
def fnStrongPartsSpec : ChangeSpec := { name := "fnStrongParts", fn := fun _ => fun
  | [d1, d2] => { results := [.lit (.bool true)], args := [d1, d2] }
  | _ => none }
def fnStrongPartsRow : OpenClaim := { program := "ytjkhdblhbjndiaa", sum := "61b85884e3137e78c34684085c20510f11801726f7a5ed313a764f212bb9c698", func := "loop.example/g01113/laws.FnStrongParts", spec := "fnStrongParts", unfollowed := true, recurses := true, plainKeys := false, apart := false }
def FnStrongPartsSaid : Prop := fnStrongPartsRow.holds Try.pinned (OpenSpec.ofChange fnStrongPartsSpec)

/-- ITS FALSE NEIGHBOUR: 'it returns false'. Refute it at one input. -/
def fnStrongPartsWrong : ChangeSpec := { name := "fnStrongParts", fn := fun _ => fun
  | [d1, d2] => { results := [.lit (.bool false)], args := [d1, d2] }
  | _ => none }
def FnStrongPartsWrongFalsely : Prop := fnStrongPartsRow.holds Try.pinned (OpenSpec.ofChange fnStrongPartsWrong)

/- THE SECOND FORM. 'bulk': how many values and letters a reading holds, each counted each time it is reached (what is shared counts as often as it is met; a slice's spare places count too). A statement '..UptoSaid' is the law's where the arguments, and the package variables that the reading takes, are together of bulk at most 1048576: NARROWER than '..Said'. Prove '..Said' where nothing that the law and all that it calls make is longer than what came in: it says more and counts as full. Else prove '..UptoSaid'. A law counts once. -/
mutual
def uptoBulk {H : Type} : DataW H → Nat
  | .lit (.string bytes) => bytes.length + 1
  | .lit _ => 1
  | .nil => 1
  | .ptr d => uptoBulk d + 1
  | .slice elems spare => uptoBulkAll elems + uptoBulkAll spare + 1
  | .agg parts => uptoBulkAll parts + 1
  | .iface _ d => uptoBulk d + 1
  | .map entries => uptoBulkEntries entries + 1
  | .held _ => 1
def uptoBulkAll {H : Type} : List (DataW H) → Nat
  | [] => 0
  | d :: r => uptoBulk d + uptoBulkAll r
def uptoBulkEntries {H : Type} : List (Lit × DataW H) → Nat
  | [] => 0
  | x :: r => uptoBulkEntry x + uptoBulkEntries r
def uptoBulkEntry {H : Type} : Lit × DataW H → Nat
  | (.string bytes, d) => bytes.length + uptoBulk d + 1
  | (_, d) => uptoBulk d + 1
 end
def uptoSmall : (H : Type) → List (DataW H) → Bool := fun _ ds => decide (uptoBulkAll ds ≤ 1048576)
def OpenSpec.upto (s : _root_.Go.ChangeSpec) : _root_.Go.OpenSpec := { _root_.Go.OpenSpec.ofChange s with cond := some uptoSmall }

/-- 'laws.FnExactConvexSum', WHERE WHAT IT READS IS OF BULK AT MOST 1048576: true; the input reads as it did. -/
def fnExactConvexSumUptoRow : OpenClaim := { program := "ytjkhdblhbjndiaa", sum := "61b85884e3137e78c34684085c20510f11801726f7a5ed313a764f212bb9c698", func := "loop.example/g01113/laws.FnExactConvexSum", spec := "fnExactConvexSum", plainKeys := false, apart := false, narrowed := true }
def FnExactConvexSumUptoSaid : Prop := fnExactConvexSumUptoRow.holds Try.pinned (OpenSpec.upto fnExactConvexSumSpec)

/-- 'laws.FnExactArrangedSum', WHERE WHAT IT READS IS OF BULK AT MOST 1048576: true; the input reads as it did. -/
def fnExactArrangedSumUptoRow : OpenClaim := { program := "ytjkhdblhbjndiaa", sum := "61b85884e3137e78c34684085c20510f11801726f7a5ed313a764f212bb9c698", func := "loop.example/g01113/laws.FnExactArrangedSum", spec := "fnExactArrangedSum", plainKeys := false, apart := false, narrowed := true }
def FnExactArrangedSumUptoSaid : Prop := fnExactArrangedSumUptoRow.holds Try.pinned (OpenSpec.upto fnExactArrangedSumSpec)

/-- 'laws.FnExactExcessOver', WHERE WHAT IT READS IS OF BULK AT MOST 1048576: true; the input reads as it did. -/
def fnExactExcessOverUptoRow : OpenClaim := { program := "ytjkhdblhbjndiaa", sum := "61b85884e3137e78c34684085c20510f11801726f7a5ed313a764f212bb9c698", func := "loop.example/g01113/laws.FnExactExcessOver", spec := "fnExactExcessOver", plainKeys := false, apart := false, narrowed := true }
def FnExactExcessOverUptoSaid : Prop := fnExactExcessOverUptoRow.holds Try.pinned (OpenSpec.upto fnExactExcessOverSpec)

/-- 'laws.FnExactIsTournament', WHERE WHAT IT READS IS OF BULK AT MOST 1048576: true; the input reads as it did. -/
def fnExactIsTournamentUptoRow : OpenClaim := { program := "ytjkhdblhbjndiaa", sum := "61b85884e3137e78c34684085c20510f11801726f7a5ed313a764f212bb9c698", func := "loop.example/g01113/laws.FnExactIsTournament", spec := "fnExactIsTournament", plainKeys := false, apart := false, narrowed := true }
def FnExactIsTournamentUptoSaid : Prop := fnExactIsTournamentUptoRow.holds Try.pinned (OpenSpec.upto fnExactIsTournamentSpec)

/-- 'laws.FnExactMirrorTournament', WHERE WHAT IT READS IS OF BULK AT MOST 1048576: true; the input reads as it did. -/
def fnExactMirrorTournamentUptoRow : OpenClaim := { program := "ytjkhdblhbjndiaa", sum := "61b85884e3137e78c34684085c20510f11801726f7a5ed313a764f212bb9c698", func := "loop.example/g01113/laws.FnExactMirrorTournament", spec := "fnExactMirrorTournament", plainKeys := false, apart := false, narrowed := true }
def FnExactMirrorTournamentUptoSaid : Prop := fnExactMirrorTournamentUptoRow.holds Try.pinned (OpenSpec.upto fnExactMirrorTournamentSpec)

/-- 'laws.FnExactTurnCircle', WHERE WHAT IT READS IS OF BULK AT MOST 1048576: true; the input reads as it did. -/
def fnExactTurnCircleUptoRow : OpenClaim := { program := "ytjkhdblhbjndiaa", sum := "61b85884e3137e78c34684085c20510f11801726f7a5ed313a764f212bb9c698", func := "loop.example/g01113/laws.FnExactTurnCircle", spec := "fnExactTurnCircle", plainKeys := false, apart := false, narrowed := true }
def FnExactTurnCircleUptoSaid : Prop := fnExactTurnCircleUptoRow.holds Try.pinned (OpenSpec.upto fnExactTurnCircleSpec)

/-- 'laws.FnExactScoresOf', WHERE WHAT IT READS IS OF BULK AT MOST 1048576: true; the input reads as it did. -/
def fnExactScoresOfUptoRow : OpenClaim := { program := "ytjkhdblhbjndiaa", sum := "61b85884e3137e78c34684085c20510f11801726f7a5ed313a764f212bb9c698", func := "loop.example/g01113/laws.FnExactScoresOf", spec := "fnExactScoresOf", plainKeys := false, apart := false, narrowed := true }
def FnExactScoresOfUptoSaid : Prop := fnExactScoresOfUptoRow.holds Try.pinned (OpenSpec.upto fnExactScoresOfSpec)

/-- 'laws.FnExactCirclesOf', WHERE WHAT IT READS IS OF BULK AT MOST 1048576: true; the input reads as it did. -/
def fnExactCirclesOfUptoRow : OpenClaim := { program := "ytjkhdblhbjndiaa", sum := "61b85884e3137e78c34684085c20510f11801726f7a5ed313a764f212bb9c698", func := "loop.example/g01113/laws.FnExactCirclesOf", spec := "fnExactCirclesOf", plainKeys := false, apart := false, narrowed := true }
def FnExactCirclesOfUptoSaid : Prop := fnExactCirclesOfUptoRow.holds Try.pinned (OpenSpec.upto fnExactCirclesOfSpec)

/-- 'laws.FnExactFirstOrder', WHERE WHAT IT READS IS OF BULK AT MOST 1048576: true; the input reads as it did. -/
def fnExactFirstOrderUptoRow : OpenClaim := { program := "ytjkhdblhbjndiaa", sum := "61b85884e3137e78c34684085c20510f11801726f7a5ed313a764f212bb9c698", func := "loop.example/g01113/laws.FnExactFirstOrder", spec := "fnExactFirstOrder", unfollowed := true, recurses := true, plainKeys := false, apart := false, narrowed := true }
def FnExactFirstOrderUptoSaid : Prop := fnExactFirstOrderUptoRow.holds Try.pinned (OpenSpec.upto fnExactFirstOrderSpec)

/-- 'laws.FnExactFirstRound', WHERE WHAT IT READS IS OF BULK AT MOST 1048576: true; the input reads as it did. -/
def fnExactFirstRoundUptoRow : OpenClaim := { program := "ytjkhdblhbjndiaa", sum := "61b85884e3137e78c34684085c20510f11801726f7a5ed313a764f212bb9c698", func := "loop.example/g01113/laws.FnExactFirstRound", spec := "fnExactFirstRound", unfollowed := true, recurses := true, plainKeys := false, apart := false, narrowed := true }
def FnExactFirstRoundUptoSaid : Prop := fnExactFirstRoundUptoRow.holds Try.pinned (OpenSpec.upto fnExactFirstRoundSpec)

/-- 'laws.FnExactTournamentsOf', WHERE WHAT IT READS IS OF BULK AT MOST 1048576: true; the input reads as it did. -/
def fnExactTournamentsOfUptoRow : OpenClaim := { program := "ytjkhdblhbjndiaa", sum := "61b85884e3137e78c34684085c20510f11801726f7a5ed313a764f212bb9c698", func := "loop.example/g01113/laws.FnExactTournamentsOf", spec := "fnExactTournamentsOf", unfollowed := true, recurses := true, plainKeys := false, apart := false, narrowed := true }
def FnExactTournamentsOfUptoSaid : Prop := fnExactTournamentsOfUptoRow.holds Try.pinned (OpenSpec.upto fnExactTournamentsOfSpec)

/-- 'laws.FnExactTurnPath', WHERE WHAT IT READS IS OF BULK AT MOST 1048576: true; the input reads as it did. -/
def fnExactTurnPathUptoRow : OpenClaim := { program := "ytjkhdblhbjndiaa", sum := "61b85884e3137e78c34684085c20510f11801726f7a5ed313a764f212bb9c698", func := "loop.example/g01113/laws.FnExactTurnPath", spec := "fnExactTurnPath", unfollowed := true, recurses := true, plainKeys := false, apart := false, narrowed := true }
def FnExactTurnPathUptoSaid : Prop := fnExactTurnPathUptoRow.holds Try.pinned (OpenSpec.upto fnExactTurnPathSpec)

/-- 'laws.FnExactAreScores', WHERE WHAT IT READS IS OF BULK AT MOST 1048576: true; the input reads as it did. -/
def fnExactAreScoresUptoRow : OpenClaim := { program := "ytjkhdblhbjndiaa", sum := "61b85884e3137e78c34684085c20510f11801726f7a5ed313a764f212bb9c698", func := "loop.example/g01113/laws.FnExactAreScores", spec := "fnExactAreScores", unfollowed := true, recurses := true, plainKeys := false, apart := false, narrowed := true }
def FnExactAreScoresUptoSaid : Prop := fnExactAreScoresUptoRow.holds Try.pinned (OpenSpec.upto fnExactAreScoresSpec)

/-- 'laws.FnExactRefusingScores', WHERE WHAT IT READS IS OF BULK AT MOST 1048576: true; the input reads as it did. -/
def fnExactRefusingScoresUptoRow : OpenClaim := { program := "ytjkhdblhbjndiaa", sum := "61b85884e3137e78c34684085c20510f11801726f7a5ed313a764f212bb9c698", func := "loop.example/g01113/laws.FnExactRefusingScores", spec := "fnExactRefusingScores", unfollowed := true, recurses := true, plainKeys := false, apart := false, narrowed := true }
def FnExactRefusingScoresUptoSaid : Prop := fnExactRefusingScoresUptoRow.holds Try.pinned (OpenSpec.upto fnExactRefusingScoresSpec)

/-- 'laws.FnExactCountCircles', WHERE WHAT IT READS IS OF BULK AT MOST 1048576: true; the input reads as it did. -/
def fnExactCountCirclesUptoRow : OpenClaim := { program := "ytjkhdblhbjndiaa", sum := "61b85884e3137e78c34684085c20510f11801726f7a5ed313a764f212bb9c698", func := "loop.example/g01113/laws.FnExactCountCircles", spec := "fnExactCountCircles", unfollowed := true, recurses := true, plainKeys := false, apart := false, narrowed := true }
def FnExactCountCirclesUptoSaid : Prop := fnExactCountCirclesUptoRow.holds Try.pinned (OpenSpec.upto fnExactCountCirclesSpec)

/-- 'laws.FnExactStrongParts', WHERE WHAT IT READS IS OF BULK AT MOST 1048576: true; the input reads as it did. -/
def fnExactStrongPartsUptoRow : OpenClaim := { program := "ytjkhdblhbjndiaa", sum := "61b85884e3137e78c34684085c20510f11801726f7a5ed313a764f212bb9c698", func := "loop.example/g01113/laws.FnExactStrongParts", spec := "fnExactStrongParts", unfollowed := true, recurses := true, plainKeys := false, apart := false, narrowed := true }
def FnExactStrongPartsUptoSaid : Prop := fnExactStrongPartsUptoRow.holds Try.pinned (OpenSpec.upto fnExactStrongPartsSpec)

/-- 'laws.FnExactBuildTournament', WHERE WHAT IT READS IS OF BULK AT MOST 1048576: true; the input reads as it did. -/
def fnExactBuildTournamentUptoRow : OpenClaim := { program := "ytjkhdblhbjndiaa", sum := "61b85884e3137e78c34684085c20510f11801726f7a5ed313a764f212bb9c698", func := "loop.example/g01113/laws.FnExactBuildTournament", spec := "fnExactBuildTournament", unfollowed := true, recurses := true, plainKeys := false, apart := false, narrowed := true }
def FnExactBuildTournamentUptoSaid : Prop := fnExactBuildTournamentUptoRow.holds Try.pinned (OpenSpec.upto fnExactBuildTournamentSpec)

/-- 'laws.FnTournamentsBuilt', WHERE WHAT IT READS IS OF BULK AT MOST 1048576: true; the input reads as it did. -/
def fnTournamentsBuiltUptoRow : OpenClaim := { program := "ytjkhdblhbjndiaa", sum := "61b85884e3137e78c34684085c20510f11801726f7a5ed313a764f212bb9c698", func := "loop.example/g01113/laws.FnTournamentsBuilt", spec := "fnTournamentsBuilt", unfollowed := true, recurses := true, plainKeys := false, apart := false, narrowed := true }
def FnTournamentsBuiltUptoSaid : Prop := fnTournamentsBuiltUptoRow.holds Try.pinned (OpenSpec.upto fnTournamentsBuiltSpec)

/-- 'laws.FnCirclesTurned', WHERE WHAT IT READS IS OF BULK AT MOST 1048576: true; the input reads as it did. -/
def fnCirclesTurnedUptoRow : OpenClaim := { program := "ytjkhdblhbjndiaa", sum := "61b85884e3137e78c34684085c20510f11801726f7a5ed313a764f212bb9c698", func := "loop.example/g01113/laws.FnCirclesTurned", spec := "fnCirclesTurned", unfollowed := true, recurses := true, plainKeys := false, apart := false, narrowed := true }
def FnCirclesTurnedUptoSaid : Prop := fnCirclesTurnedUptoRow.holds Try.pinned (OpenSpec.upto fnCirclesTurnedSpec)

/-- 'laws.FnStrongParts', WHERE WHAT IT READS IS OF BULK AT MOST 1048576: true; the input reads as it did. -/
def fnStrongPartsUptoRow : OpenClaim := { program := "ytjkhdblhbjndiaa", sum := "61b85884e3137e78c34684085c20510f11801726f7a5ed313a764f212bb9c698", func := "loop.example/g01113/laws.FnStrongParts", spec := "fnStrongParts", unfollowed := true, recurses := true, plainKeys := false, apart := false, narrowed := true }
def FnStrongPartsUptoSaid : Prop := fnStrongPartsUptoRow.holds Try.pinned (OpenSpec.upto fnStrongPartsSpec)

end Rows
end Go.Proofs.Ytjkhdblhbjndiaa
