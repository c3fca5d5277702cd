/-
  DERIVED. GIVEN WITH THE SEED: THE CARDS: each row of YtckmopameemfkaaDoorRows.lean that lists a variable, with what it lists TIED to the program's text (the seventh form; the later family's looks); each row that meets fmt, with fmt's text TOLD by the authors' own Lean function (tested against real Go, not proved from fmt's source: count such statements apart). THE CARD IS WHAT COUNTS. Prove the row's statement (the work); the ties are given (YtckmopameemfkaaDoorTie.lean); close each card by the builder's one call (the guide's Derived/Test/ToyasCard.lean, 'card_holds'). Laid BY PROGRAM, IN A SANDBOX (cutbox-door.mjs). By AI agents, Wed Nov 11 2026. No macro, syntax, notation, axiom, sorry.
-/
import Derived.Test.YtckmopameemfkaaDoorRows
import GoSem.ClaimSeven
namespace Go.Proofs.YtckmopameemfkaaDoor
namespace Rows

/-- THE TIED CARD OF 'laws.FnExactIsThreshold'. -/
def fnExactIsThresholdCard : Claim7 := { stood := { row := fnExactIsThresholdRow, standIns := [], harness := (true, "78ac769fcda1dd80cf4c2c68cf1783fa5f11c79cbf48cfb47b508b795631e8da"), looks := false }, kinds := [], alts := [], laidByText := true, laidKinds := [.data, .data], laidTests := true, laidLooks := .later }
def FnExactIsThresholdCardSaid : Prop := Claim7.holds Tryd.pinned (.plain (OpenSpec.ofChange fnExactIsThresholdSpec)) fnExactIsThresholdCard

/-- THE TIED CARD OF 'laws.FnExactThresholdSteps'. -/
def fnExactThresholdStepsCard : Claim7 := { stood := { row := fnExactThresholdStepsRow, standIns := [], harness := (true, "78ac769fcda1dd80cf4c2c68cf1783fa5f11c79cbf48cfb47b508b795631e8da"), looks := false }, kinds := [], alts := [], laidByText := true, laidKinds := [.data, .data], laidTests := true, laidLooks := .later }
def FnExactThresholdStepsCardSaid : Prop := Claim7.holds Tryd.pinned (.plain (OpenSpec.ofChange fnExactThresholdStepsSpec)) fnExactThresholdStepsCard

/-- THE TIED CARD OF 'laws.FnExactCountGraphs'. -/
def fnExactCountGraphsCard : Claim7 := { stood := { row := fnExactCountGraphsRow, standIns := [], harness := (true, "78ac769fcda1dd80cf4c2c68cf1783fa5f11c79cbf48cfb47b508b795631e8da"), looks := false }, kinds := [], alts := [], laidByText := true, laidKinds := [.data, .data], laidTests := true, laidLooks := .later }
def FnExactCountGraphsCardSaid : Prop := Claim7.holds Tryd.pinned (.plain (OpenSpec.ofChange fnExactCountGraphsSpec)) fnExactCountGraphsCard

/-- THE TIED CARD OF 'laws.FnExactGraphsOf'. -/
def fnExactGraphsOfCard : Claim7 := { stood := { row := fnExactGraphsOfRow, standIns := [], harness := (true, "78ac769fcda1dd80cf4c2c68cf1783fa5f11c79cbf48cfb47b508b795631e8da"), looks := false }, kinds := [], alts := [], laidByText := true, laidKinds := [.data, .data], laidTests := true, laidLooks := .later }
def FnExactGraphsOfCardSaid : Prop := Claim7.holds Tryd.pinned (.plain (OpenSpec.ofChange fnExactGraphsOfSpec)) fnExactGraphsOfCard

/-- THE SECOND FORM's CARD OF 'laws.FnExactIsThreshold'. -/
def fnExactIsThresholdUptoCard : Claim7 := { stood := { row := fnExactIsThresholdUptoRow, standIns := [], harness := (true, "78ac769fcda1dd80cf4c2c68cf1783fa5f11c79cbf48cfb47b508b795631e8da"), looks := false }, kinds := [], alts := [], laidByText := true, laidKinds := [.data, .data], laidTests := true, laidLooks := .later }
def FnExactIsThresholdUptoCardSaid : Prop := Claim7.holds Tryd.pinned (.plain (OpenSpec.upto fnExactIsThresholdSpec)) fnExactIsThresholdUptoCard

/-- THE SECOND FORM's CARD OF 'laws.FnExactThresholdSteps'. -/
def fnExactThresholdStepsUptoCard : Claim7 := { stood := { row := fnExactThresholdStepsUptoRow, standIns := [], harness := (true, "78ac769fcda1dd80cf4c2c68cf1783fa5f11c79cbf48cfb47b508b795631e8da"), looks := false }, kinds := [], alts := [], laidByText := true, laidKinds := [.data, .data], laidTests := true, laidLooks := .later }
def FnExactThresholdStepsUptoCardSaid : Prop := Claim7.holds Tryd.pinned (.plain (OpenSpec.upto fnExactThresholdStepsSpec)) fnExactThresholdStepsUptoCard

/-- THE SECOND FORM's CARD OF 'laws.FnExactCountGraphs'. -/
def fnExactCountGraphsUptoCard : Claim7 := { stood := { row := fnExactCountGraphsUptoRow, standIns := [], harness := (true, "78ac769fcda1dd80cf4c2c68cf1783fa5f11c79cbf48cfb47b508b795631e8da"), looks := false }, kinds := [], alts := [], laidByText := true, laidKinds := [.data, .data], laidTests := true, laidLooks := .later }
def FnExactCountGraphsUptoCardSaid : Prop := Claim7.holds Tryd.pinned (.plain (OpenSpec.upto fnExactCountGraphsSpec)) fnExactCountGraphsUptoCard

/-- THE SECOND FORM's CARD OF 'laws.FnExactGraphsOf'. -/
def fnExactGraphsOfUptoCard : Claim7 := { stood := { row := fnExactGraphsOfUptoRow, standIns := [], harness := (true, "78ac769fcda1dd80cf4c2c68cf1783fa5f11c79cbf48cfb47b508b795631e8da"), looks := false }, kinds := [], alts := [], laidByText := true, laidKinds := [.data, .data], laidTests := true, laidLooks := .later }
def FnExactGraphsOfUptoCardSaid : Prop := Claim7.holds Tryd.pinned (.plain (OpenSpec.upto fnExactGraphsOfSpec)) fnExactGraphsOfUptoCard
end Rows
end Go.Proofs.YtckmopameemfkaaDoor
