/-
  DERIVED. GIVEN WITH THE SEED: THE CARDS: each row of YtcheoendfcgjgaaDoorRows.lean that lists a variable, with what it lists TIED to the program's text (the seventh form; the later family's looks); each row that meets fmt, with fmt's text TOLD by the authors' own Lean function (tested against real Go, not proved from fmt's source: count such statements apart). THE CARD IS WHAT COUNTS. Prove the row's statement (the work); the ties are given (YtcheoendfcgjgaaDoorTie.lean); close each card by the builder's one call (the guide's Derived/Test/ToyasCard.lean, 'card_holds'). Laid BY PROGRAM, IN A SANDBOX (cutbox-door.mjs). By AI agents, Wed Nov 11 2026. No macro, syntax, notation, axiom, sorry.
-/
import Derived.Test.YtcheoendfcgjgaaDoorRows
import GoSem.ClaimSeven
namespace Go.Proofs.YtcheoendfcgjgaaDoor
namespace Rows

/-- THE TIED CARD OF 'laws.FnOrdersAndKings'. -/
def fnOrdersAndKingsCard : Claim7 := { stood := { row := fnOrdersAndKingsRow, standIns := [], harness := (true, "a63b034fa26d552d4b9a205875d5030d04a92f44cf03ea9d1419a7e22f8b0dc6"), looks := false }, kinds := [], alts := [], laidByText := true, laidKinds := [.data, .data], laidTests := true, laidLooks := .later }
def FnOrdersAndKingsCardSaid : Prop := Claim7.holds Tryd.pinned (.plain (OpenSpec.ofChange fnOrdersAndKingsSpec)) fnOrdersAndKingsCard

/-- THE TIED CARD OF 'laws.FnGraphsBuilt'. -/
def fnGraphsBuiltCard : Claim7 := { stood := { row := fnGraphsBuiltRow, standIns := [], harness := (true, "a63b034fa26d552d4b9a205875d5030d04a92f44cf03ea9d1419a7e22f8b0dc6"), looks := false }, kinds := [], alts := [], laidByText := true, laidKinds := [.data, .data], laidTests := true, laidLooks := .later }
def FnGraphsBuiltCardSaid : Prop := Claim7.holds Tryd.pinned (.plain (OpenSpec.ofChange fnGraphsBuiltSpec)) fnGraphsBuiltCard

/-- THE SECOND FORM's CARD OF 'laws.FnOrdersAndKings'. -/
def fnOrdersAndKingsUptoCard : Claim7 := { stood := { row := fnOrdersAndKingsUptoRow, standIns := [], harness := (true, "a63b034fa26d552d4b9a205875d5030d04a92f44cf03ea9d1419a7e22f8b0dc6"), looks := false }, kinds := [], alts := [], laidByText := true, laidKinds := [.data, .data], laidTests := true, laidLooks := .later }
def FnOrdersAndKingsUptoCardSaid : Prop := Claim7.holds Tryd.pinned (.plain (OpenSpec.upto fnOrdersAndKingsSpec)) fnOrdersAndKingsUptoCard

/-- THE SECOND FORM's CARD OF 'laws.FnGraphsBuilt'. -/
def fnGraphsBuiltUptoCard : Claim7 := { stood := { row := fnGraphsBuiltUptoRow, standIns := [], harness := (true, "a63b034fa26d552d4b9a205875d5030d04a92f44cf03ea9d1419a7e22f8b0dc6"), looks := false }, kinds := [], alts := [], laidByText := true, laidKinds := [.data, .data], laidTests := true, laidLooks := .later }
def FnGraphsBuiltUptoCardSaid : Prop := Claim7.holds Tryd.pinned (.plain (OpenSpec.upto fnGraphsBuiltSpec)) fnGraphsBuiltUptoCard
end Rows
end Go.Proofs.YtcheoendfcgjgaaDoor
