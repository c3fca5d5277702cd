/-
  DERIVED. GIVEN WITH THE SEED: THE CARDS: each row of YtfmpbflbkochgaaDoorRows.lean that lists a variable, with what it lists TIED to the program's text (the seventh form; the later family's looks); each row that meets fmt, with fmt's text TOLD by the authors' own Lean function (tested against real Go, not proved from fmt's source: count such statements apart). THE CARD IS WHAT COUNTS. Prove the row's statement (the work); the ties are given (YtfmpbflbkochgaaDoorTie.lean); close each card by the builder's one call (the guide's Derived/Test/ToyasCard.lean, 'card_holds'). Laid BY PROGRAM, IN A SANDBOX (cutbox-door.mjs). By AI agents, Wed Nov 11 2026. No macro, syntax, notation, axiom, sorry.
-/
import Derived.Test.YtfmpbflbkochgaaDoorRows
import GoSem.ClaimSeven
namespace Go.Proofs.YtfmpbflbkochgaaDoor
namespace Rows

/-- THE TIED CARD OF 'laws.FnExactTournamentText'. -/
def fnExactTournamentTextCard : Claim7 := { stood := { row := fnExactTournamentTextRow, standIns := [], harness := (true, "b55c4adfea13869723fcfc3b5a427cc761b93b7ea52e697e3096072499bef0e7"), looks := false }, kinds := [], alts := [], laidByText := true, laidKinds := [.data, .data, .data], laidTests := true, laidLooks := .later }
def FnExactTournamentTextCardSaid : Prop := Claim7.holds Tryd.pinned (.plain (OpenSpec.ofChange fnExactTournamentTextSpec)) fnExactTournamentTextCard

/-- THE TIED CARD OF 'laws.FnExactParseTournament'. -/
def fnExactParseTournamentCard : Claim7 := { stood := { row := fnExactParseTournamentRow, standIns := [], harness := (true, "b55c4adfea13869723fcfc3b5a427cc761b93b7ea52e697e3096072499bef0e7"), looks := false }, kinds := [], alts := [], laidByText := true, laidKinds := [.data, .data, .data], laidTests := true, laidLooks := .later }
def FnExactParseTournamentCardSaid : Prop := Claim7.holds Tryd.pinned (.plain (OpenSpec.ofChange fnExactParseTournamentSpec)) fnExactParseTournamentCard

/-- THE TIED CARD OF 'laws.FnOrdersAndKings'. -/
def fnOrdersAndKingsCard : Claim7 := { stood := { row := fnOrdersAndKingsRow, standIns := [], harness := (true, "b55c4adfea13869723fcfc3b5a427cc761b93b7ea52e697e3096072499bef0e7"), looks := false }, kinds := [], alts := [], laidByText := true, laidKinds := [.data, .data], laidTests := true, laidLooks := .later }
def FnOrdersAndKingsCardSaid : Prop := Claim7.holds Tryd.pinned (.plain (OpenSpec.ofChange fnOrdersAndKingsSpec)) fnOrdersAndKingsCard

/-- THE SECOND FORM's CARD OF 'laws.FnExactTournamentText'. -/
def fnExactTournamentTextUptoCard : Claim7 := { stood := { row := fnExactTournamentTextUptoRow, standIns := [], harness := (true, "b55c4adfea13869723fcfc3b5a427cc761b93b7ea52e697e3096072499bef0e7"), looks := false }, kinds := [], alts := [], laidByText := true, laidKinds := [.data, .data, .data], laidTests := true, laidLooks := .later }
def FnExactTournamentTextUptoCardSaid : Prop := Claim7.holds Tryd.pinned (.plain (OpenSpec.upto fnExactTournamentTextSpec)) fnExactTournamentTextUptoCard

/-- THE SECOND FORM's CARD OF 'laws.FnExactParseTournament'. -/
def fnExactParseTournamentUptoCard : Claim7 := { stood := { row := fnExactParseTournamentUptoRow, standIns := [], harness := (true, "b55c4adfea13869723fcfc3b5a427cc761b93b7ea52e697e3096072499bef0e7"), looks := false }, kinds := [], alts := [], laidByText := true, laidKinds := [.data, .data, .data], laidTests := true, laidLooks := .later }
def FnExactParseTournamentUptoCardSaid : Prop := Claim7.holds Tryd.pinned (.plain (OpenSpec.upto fnExactParseTournamentSpec)) fnExactParseTournamentUptoCard

/-- THE SECOND FORM's CARD OF 'laws.FnOrdersAndKings'. -/
def fnOrdersAndKingsUptoCard : Claim7 := { stood := { row := fnOrdersAndKingsUptoRow, standIns := [], harness := (true, "b55c4adfea13869723fcfc3b5a427cc761b93b7ea52e697e3096072499bef0e7"), looks := false }, kinds := [], alts := [], laidByText := true, laidKinds := [.data, .data], laidTests := true, laidLooks := .later }
def FnOrdersAndKingsUptoCardSaid : Prop := Claim7.holds Tryd.pinned (.plain (OpenSpec.upto fnOrdersAndKingsSpec)) fnOrdersAndKingsUptoCard
end Rows
end Go.Proofs.YtfmpbflbkochgaaDoor
