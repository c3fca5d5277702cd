/-
  DERIVED. GIVEN WITH THE SEED: THE CARDS: each row of YtbcbgehdikockaaDoorRows.lean that lists a variable, with what it lists TIED to the program's text (the seventh form; the later family's looks); each row that meets fmt, with fmt's text TOLD by the authors' own Lean function (tested against real Go, not proved from fmt's source: count such statements apart). THE CARD IS WHAT COUNTS. Prove the row's statement (the work); the ties are given (YtbcbgehdikockaaDoorTie.lean); close each card by the builder's one call (the guide's Derived/Test/ToyasCard.lean, 'card_holds'). Laid BY PROGRAM, IN A SANDBOX (cutbox-door.mjs). By AI agents, Wed Nov 11 2026. No macro, syntax, notation, axiom, sorry.
-/
import Derived.Test.YtbcbgehdikockaaDoorRows
import GoSem.ClaimSeven
namespace Go.Proofs.YtbcbgehdikockaaDoor
namespace Rows

/-- THE TIED CARD OF 'laws.FnExactIsGraph'. -/
def fnExactIsGraphCard : Claim7 := { stood := { row := fnExactIsGraphRow, standIns := [], harness := (true, "4e6b7316599e283fa334e3eb32a65eae8eb38e2d6981963862c2b8deed58b040"), looks := false }, kinds := [], alts := [], laidByText := true, laidKinds := [.data, .data], laidTests := true, laidLooks := .later }
def FnExactIsGraphCardSaid : Prop := Claim7.holds Tryd.pinned (.plain (OpenSpec.ofChange fnExactIsGraphSpec)) fnExactIsGraphCard

/-- THE TIED CARD OF 'laws.FnExactOppositeGraph'. -/
def fnExactOppositeGraphCard : Claim7 := { stood := { row := fnExactOppositeGraphRow, standIns := [], harness := (true, "4e6b7316599e283fa334e3eb32a65eae8eb38e2d6981963862c2b8deed58b040"), looks := false }, kinds := [], alts := [], laidByText := true, laidKinds := [.data, .data], laidTests := true, laidLooks := .later }
def FnExactOppositeGraphCardSaid : Prop := Claim7.holds Tryd.pinned (.plain (OpenSpec.ofChange fnExactOppositeGraphSpec)) fnExactOppositeGraphCard

/-- THE TIED CARD OF 'laws.FnExactKingsOf'. -/
def fnExactKingsOfCard : Claim7 := { stood := { row := fnExactKingsOfRow, standIns := [], harness := (true, "4e6b7316599e283fa334e3eb32a65eae8eb38e2d6981963862c2b8deed58b040"), looks := false }, kinds := [], alts := [], laidByText := true, laidKinds := [.data, .data], laidTests := true, laidLooks := .later }
def FnExactKingsOfCardSaid : Prop := Claim7.holds Tryd.pinned (.plain (OpenSpec.ofChange fnExactKingsOfSpec)) fnExactKingsOfCard

/-- THE TIED CARD OF 'laws.FnExactDegreesOf'. -/
def fnExactDegreesOfCard : Claim7 := { stood := { row := fnExactDegreesOfRow, standIns := [], harness := (true, "4e6b7316599e283fa334e3eb32a65eae8eb38e2d6981963862c2b8deed58b040"), looks := false }, kinds := [], alts := [], laidByText := true, laidKinds := [.data, .data], laidTests := true, laidLooks := .later }
def FnExactDegreesOfCardSaid : Prop := Claim7.holds Tryd.pinned (.plain (OpenSpec.ofChange fnExactDegreesOfSpec)) fnExactDegreesOfCard

/-- THE TIED CARD OF 'laws.FnExactSwitchEdges'. -/
def fnExactSwitchEdgesCard : Claim7 := { stood := { row := fnExactSwitchEdgesRow, standIns := [], harness := (true, "4e6b7316599e283fa334e3eb32a65eae8eb38e2d6981963862c2b8deed58b040"), looks := false }, kinds := [], alts := [], laidByText := true, laidKinds := [.data, .data], laidTests := true, laidLooks := .later }
def FnExactSwitchEdgesCardSaid : Prop := Claim7.holds Tryd.pinned (.plain (OpenSpec.ofChange fnExactSwitchEdgesSpec)) fnExactSwitchEdgesCard

/-- THE TIED CARD OF 'laws.FnExactEdgeSwitches'. -/
def fnExactEdgeSwitchesCard : Claim7 := { stood := { row := fnExactEdgeSwitchesRow, standIns := [], harness := (true, "4e6b7316599e283fa334e3eb32a65eae8eb38e2d6981963862c2b8deed58b040"), looks := false }, kinds := [], alts := [], laidByText := true, laidKinds := [.data, .data], laidTests := true, laidLooks := .later }
def FnExactEdgeSwitchesCardSaid : Prop := Claim7.holds Tryd.pinned (.plain (OpenSpec.ofChange fnExactEdgeSwitchesSpec)) fnExactEdgeSwitchesCard

/-- THE SECOND FORM's CARD OF 'laws.FnExactIsGraph'. -/
def fnExactIsGraphUptoCard : Claim7 := { stood := { row := fnExactIsGraphUptoRow, standIns := [], harness := (true, "4e6b7316599e283fa334e3eb32a65eae8eb38e2d6981963862c2b8deed58b040"), looks := false }, kinds := [], alts := [], laidByText := true, laidKinds := [.data, .data], laidTests := true, laidLooks := .later }
def FnExactIsGraphUptoCardSaid : Prop := Claim7.holds Tryd.pinned (.plain (OpenSpec.upto fnExactIsGraphSpec)) fnExactIsGraphUptoCard

/-- THE SECOND FORM's CARD OF 'laws.FnExactOppositeGraph'. -/
def fnExactOppositeGraphUptoCard : Claim7 := { stood := { row := fnExactOppositeGraphUptoRow, standIns := [], harness := (true, "4e6b7316599e283fa334e3eb32a65eae8eb38e2d6981963862c2b8deed58b040"), looks := false }, kinds := [], alts := [], laidByText := true, laidKinds := [.data, .data], laidTests := true, laidLooks := .later }
def FnExactOppositeGraphUptoCardSaid : Prop := Claim7.holds Tryd.pinned (.plain (OpenSpec.upto fnExactOppositeGraphSpec)) fnExactOppositeGraphUptoCard

/-- THE SECOND FORM's CARD OF 'laws.FnExactKingsOf'. -/
def fnExactKingsOfUptoCard : Claim7 := { stood := { row := fnExactKingsOfUptoRow, standIns := [], harness := (true, "4e6b7316599e283fa334e3eb32a65eae8eb38e2d6981963862c2b8deed58b040"), looks := false }, kinds := [], alts := [], laidByText := true, laidKinds := [.data, .data], laidTests := true, laidLooks := .later }
def FnExactKingsOfUptoCardSaid : Prop := Claim7.holds Tryd.pinned (.plain (OpenSpec.upto fnExactKingsOfSpec)) fnExactKingsOfUptoCard

/-- THE SECOND FORM's CARD OF 'laws.FnExactDegreesOf'. -/
def fnExactDegreesOfUptoCard : Claim7 := { stood := { row := fnExactDegreesOfUptoRow, standIns := [], harness := (true, "4e6b7316599e283fa334e3eb32a65eae8eb38e2d6981963862c2b8deed58b040"), looks := false }, kinds := [], alts := [], laidByText := true, laidKinds := [.data, .data], laidTests := true, laidLooks := .later }
def FnExactDegreesOfUptoCardSaid : Prop := Claim7.holds Tryd.pinned (.plain (OpenSpec.upto fnExactDegreesOfSpec)) fnExactDegreesOfUptoCard

/-- THE SECOND FORM's CARD OF 'laws.FnExactSwitchEdges'. -/
def fnExactSwitchEdgesUptoCard : Claim7 := { stood := { row := fnExactSwitchEdgesUptoRow, standIns := [], harness := (true, "4e6b7316599e283fa334e3eb32a65eae8eb38e2d6981963862c2b8deed58b040"), looks := false }, kinds := [], alts := [], laidByText := true, laidKinds := [.data, .data], laidTests := true, laidLooks := .later }
def FnExactSwitchEdgesUptoCardSaid : Prop := Claim7.holds Tryd.pinned (.plain (OpenSpec.upto fnExactSwitchEdgesSpec)) fnExactSwitchEdgesUptoCard

/-- THE SECOND FORM's CARD OF 'laws.FnExactEdgeSwitches'. -/
def fnExactEdgeSwitchesUptoCard : Claim7 := { stood := { row := fnExactEdgeSwitchesUptoRow, standIns := [], harness := (true, "4e6b7316599e283fa334e3eb32a65eae8eb38e2d6981963862c2b8deed58b040"), looks := false }, kinds := [], alts := [], laidByText := true, laidKinds := [.data, .data], laidTests := true, laidLooks := .later }
def FnExactEdgeSwitchesUptoCardSaid : Prop := Claim7.holds Tryd.pinned (.plain (OpenSpec.upto fnExactEdgeSwitchesSpec)) fnExactEdgeSwitchesUptoCard
end Rows
end Go.Proofs.YtbcbgehdikockaaDoor
