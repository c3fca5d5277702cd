/-
  No cell of these rows narrows 'for every input' (looked for: loops, veiled, ifaces, maps, wideKeys, modest, calm, conditions, laid).
  DERIVED. THE GIVEN ROWS OF THIS SEAT. 7 by the template 'for every input the law returns true; each argument reads behind the call as it read before'; 0 by the template 'total and deterministic' (their statements: YtpkpnhgkhkgenaaTotals.lean).
  GIVEN WITH THE SEED: the statements are not yours to turn. If you find one false, say at which input.
  Laid BY PROGRAM, IN A SANDBOX (cutbox-rows.mjs): the forced cells as the released guide's own fill.sh prints them over the translation 826d5f0ac66f96cf… (all of the seat's roots in one cut). By AI agents, Wed Nov 11 2026. No macro, syntax, notation, axiom, sorry.
-/
import Derived.Test.YtpkpnhgkhkgenaaChecked
import GoSem.Claim
import GoSem.ClaimJoined
import GoSem.ClaimMapViews
import Derived.JoinedTies
import Derived.KernelRfl
namespace Go.Proofs.Ytpkpnhgkhkgenaa
/- THE CELL 'sum', in the pinned program and in every row, IS THE sha256 OF THE DUMP (.gsa) THAT YtpkpnhgkhkgenaaProg.lean LOADS. Nothing in Lean hashes anything: it is a label: what it is worth is what the hold of that sum in a sandbox is worth. -/
noncomputable def Try.pinned : Pinned := { name := "ytpkpnhgkhkgenaa", sum := "826d5f0ac66f96cfa154807e532731c8b7b6bb1538a05be21b1cbd74d4b7cdad", checked := Try.checked }
namespace Rows
def none {H : Type} : Left H := { results := [], args := [] }

/-- 'laws.FnExactConvexSum': WHATEVER THE INPUT: true; the input reads as it did. -/
def fnExactConvexSumSpec : ChangeSpec := { name := "fnExactConvexSum", fn := fun _ => fun
  | [d1, d2] => { results := [.lit (.bool true)], args := [d1, d2] }
  | _ => none }
def fnExactConvexSumRow : OpenClaim := { program := "ytpkpnhgkhkgenaa", sum := "826d5f0ac66f96cfa154807e532731c8b7b6bb1538a05be21b1cbd74d4b7cdad", func := "loop.example/g01113/laws.FnExactConvexSum", spec := "fnExactConvexSum", apart := false }
def FnExactConvexSumSaid : Prop := fnExactConvexSumRow.holds Try.pinned (OpenSpec.ofChange fnExactConvexSumSpec)

/-- ITS FALSE NEIGHBOUR: 'it returns false'. Refute it at one input. -/
def fnExactConvexSumWrong : ChangeSpec := { name := "fnExactConvexSum", fn := fun _ => fun
  | [d1, d2] => { results := [.lit (.bool false)], args := [d1, d2] }
  | _ => none }
def FnExactConvexSumWrongFalsely : Prop := fnExactConvexSumRow.holds Try.pinned (OpenSpec.ofChange fnExactConvexSumWrong)

/-- 'laws.FnExactArrangedSum': WHATEVER THE INPUT: true; the input reads as it did. -/
def fnExactArrangedSumSpec : ChangeSpec := { name := "fnExactArrangedSum", fn := fun _ => fun
  | [d1, d2] => { results := [.lit (.bool true)], args := [d1, d2] }
  | _ => none }
def fnExactArrangedSumRow : OpenClaim := { program := "ytpkpnhgkhkgenaa", sum := "826d5f0ac66f96cfa154807e532731c8b7b6bb1538a05be21b1cbd74d4b7cdad", func := "loop.example/g01113/laws.FnExactArrangedSum", spec := "fnExactArrangedSum", apart := false }
def FnExactArrangedSumSaid : Prop := fnExactArrangedSumRow.holds Try.pinned (OpenSpec.ofChange fnExactArrangedSumSpec)

/-- ITS FALSE NEIGHBOUR: 'it returns false'. Refute it at one input. -/
def fnExactArrangedSumWrong : ChangeSpec := { name := "fnExactArrangedSum", fn := fun _ => fun
  | [d1, d2] => { results := [.lit (.bool false)], args := [d1, d2] }
  | _ => none }
def FnExactArrangedSumWrongFalsely : Prop := fnExactArrangedSumRow.holds Try.pinned (OpenSpec.ofChange fnExactArrangedSumWrong)

/-- 'laws.FnExactExcessOver': WHATEVER THE INPUT: true; the input reads as it did. -/
def fnExactExcessOverSpec : ChangeSpec := { name := "fnExactExcessOver", fn := fun _ => fun
  | [d1, d2] => { results := [.lit (.bool true)], args := [d1, d2] }
  | _ => none }
def fnExactExcessOverRow : OpenClaim := { program := "ytpkpnhgkhkgenaa", sum := "826d5f0ac66f96cfa154807e532731c8b7b6bb1538a05be21b1cbd74d4b7cdad", func := "loop.example/g01113/laws.FnExactExcessOver", spec := "fnExactExcessOver", apart := false }
def FnExactExcessOverSaid : Prop := fnExactExcessOverRow.holds Try.pinned (OpenSpec.ofChange fnExactExcessOverSpec)

/-- ITS FALSE NEIGHBOUR: 'it returns false'. Refute it at one input. -/
def fnExactExcessOverWrong : ChangeSpec := { name := "fnExactExcessOver", fn := fun _ => fun
  | [d1, d2] => { results := [.lit (.bool false)], args := [d1, d2] }
  | _ => none }
def FnExactExcessOverWrongFalsely : Prop := fnExactExcessOverRow.holds Try.pinned (OpenSpec.ofChange fnExactExcessOverWrong)

/-- 'laws.FnExactIsGrid': WHATEVER THE INPUT: true; the input reads as it did. -/
def fnExactIsGridSpec : ChangeSpec := { name := "fnExactIsGrid", fn := fun _ => fun
  | [d] => { results := [.lit (.bool true)], args := [d] }
  | _ => none }
def fnExactIsGridRow : OpenClaim := { program := "ytpkpnhgkhkgenaa", sum := "826d5f0ac66f96cfa154807e532731c8b7b6bb1538a05be21b1cbd74d4b7cdad", func := "loop.example/g01113/laws.FnExactIsGrid", spec := "fnExactIsGrid", unfollowed := true, recurses := true, apart := false }
def FnExactIsGridSaid : Prop := fnExactIsGridRow.holds Try.pinned (OpenSpec.ofChange fnExactIsGridSpec)

/-- ITS FALSE NEIGHBOUR: 'it returns false'. Refute it at one input. -/
def fnExactIsGridWrong : ChangeSpec := { name := "fnExactIsGrid", fn := fun _ => fun
  | [d] => { results := [.lit (.bool false)], args := [d] }
  | _ => none }
def FnExactIsGridWrongFalsely : Prop := fnExactIsGridRow.holds Try.pinned (OpenSpec.ofChange fnExactIsGridWrong)

/-- 'laws.FnExactIsTournament': WHATEVER THE INPUT: true; the input reads as it did. -/
def fnExactIsTournamentSpec : ChangeSpec := { name := "fnExactIsTournament", fn := fun _ => fun
  | [d] => { results := [.lit (.bool true)], args := [d] }
  | _ => none }
def fnExactIsTournamentRow : OpenClaim := { program := "ytpkpnhgkhkgenaa", sum := "826d5f0ac66f96cfa154807e532731c8b7b6bb1538a05be21b1cbd74d4b7cdad", func := "loop.example/g01113/laws.FnExactIsTournament", spec := "fnExactIsTournament", apart := false }
def FnExactIsTournamentSaid : Prop := fnExactIsTournamentRow.holds Try.pinned (OpenSpec.ofChange fnExactIsTournamentSpec)

/-- ITS FALSE NEIGHBOUR: 'it returns false'. Refute it at one input. -/
def fnExactIsTournamentWrong : ChangeSpec := { name := "fnExactIsTournament", fn := fun _ => fun
  | [d] => { results := [.lit (.bool false)], args := [d] }
  | _ => none }
def FnExactIsTournamentWrongFalsely : Prop := fnExactIsTournamentRow.holds Try.pinned (OpenSpec.ofChange fnExactIsTournamentWrong)

/-- 'laws.FnExactGrowThreshold': WHATEVER THE INPUT: true; the input reads as it did. -/
def fnExactGrowThresholdSpec : ChangeSpec := { name := "fnExactGrowThreshold", fn := fun _ => fun
  | [d] => { results := [.lit (.bool true)], args := [d] }
  | _ => none }
def fnExactGrowThresholdRow : OpenClaim := { program := "ytpkpnhgkhkgenaa", sum := "826d5f0ac66f96cfa154807e532731c8b7b6bb1538a05be21b1cbd74d4b7cdad", func := "loop.example/g01113/laws.FnExactGrowThreshold", spec := "fnExactGrowThreshold", apart := false }
def FnExactGrowThresholdSaid : Prop := fnExactGrowThresholdRow.holds Try.pinned (OpenSpec.ofChange fnExactGrowThresholdSpec)

/-- ITS FALSE NEIGHBOUR: 'it returns false'. Refute it at one input. -/
def fnExactGrowThresholdWrong : ChangeSpec := { name := "fnExactGrowThreshold", fn := fun _ => fun
  | [d] => { results := [.lit (.bool false)], args := [d] }
  | _ => none }
def FnExactGrowThresholdWrongFalsely : Prop := fnExactGrowThresholdRow.holds Try.pinned (OpenSpec.ofChange fnExactGrowThresholdWrong)

/-- 'laws.FnExactGridsApart': WHATEVER THE INPUT: true; the input reads as it did. -/
def fnExactGridsApartSpec : ChangeSpec := { name := "fnExactGridsApart", fn := fun _ => fun
  | [d1, d2] => { results := [.lit (.bool true)], args := [d1, d2] }
  | _ => none }
def fnExactGridsApartRow : OpenClaim := { program := "ytpkpnhgkhkgenaa", sum := "826d5f0ac66f96cfa154807e532731c8b7b6bb1538a05be21b1cbd74d4b7cdad", func := "loop.example/g01113/laws.FnExactGridsApart", spec := "fnExactGridsApart", unfollowed := true, recurses := true, apart := false }
def FnExactGridsApartSaid : Prop := fnExactGridsApartRow.holds Try.pinned (OpenSpec.ofChange fnExactGridsApartSpec)

/-- ITS FALSE NEIGHBOUR: 'it returns false'. Refute it at one input. -/
def fnExactGridsApartWrong : ChangeSpec := { name := "fnExactGridsApart", fn := fun _ => fun
  | [d1, d2] => { results := [.lit (.bool false)], args := [d1, d2] }
  | _ => none }
def FnExactGridsApartWrongFalsely : Prop := fnExactGridsApartRow.holds Try.pinned (OpenSpec.ofChange fnExactGridsApartWrong)

/- THE SECOND FORM. 'bulk': how many values and letters a reading holds, each counted each time it is reached (what is shared counts as often as it is met; a slice's spare places count too). A statement '..UptoSaid' is the law's where the arguments, and the package variables that the reading takes, are together of bulk at most 1048576: NARROWER than '..Said'. Prove '..Said' where nothing that the law and all that it calls make is longer than what came in: it says more and counts as full. Else prove '..UptoSaid'. A law counts once. -/
mutual
def uptoBulk {H : Type} : DataW H → Nat
  | .lit (.string bytes) => bytes.length + 1
  | .lit _ => 1
  | .nil => 1
  | .ptr d => uptoBulk d + 1
  | .slice elems spare => uptoBulkAll elems + uptoBulkAll spare + 1
  | .agg parts => uptoBulkAll parts + 1
  | .iface _ d => uptoBulk d + 1
  | .map entries => uptoBulkEntries entries + 1
  | .held _ => 1
def uptoBulkAll {H : Type} : List (DataW H) → Nat
  | [] => 0
  | d :: r => uptoBulk d + uptoBulkAll r
def uptoBulkEntries {H : Type} : List (Lit × DataW H) → Nat
  | [] => 0
  | x :: r => uptoBulkEntry x + uptoBulkEntries r
def uptoBulkEntry {H : Type} : Lit × DataW H → Nat
  | (.string bytes, d) => bytes.length + uptoBulk d + 1
  | (_, d) => uptoBulk d + 1
 end
def uptoSmall : (H : Type) → List (DataW H) → Bool := fun _ ds => decide (uptoBulkAll ds ≤ 1048576)
def OpenSpec.upto (s : _root_.Go.ChangeSpec) : _root_.Go.OpenSpec := { _root_.Go.OpenSpec.ofChange s with cond := some uptoSmall }

/-- 'laws.FnExactConvexSum', WHERE WHAT IT READS IS OF BULK AT MOST 1048576: true; the input reads as it did. -/
def fnExactConvexSumUptoRow : OpenClaim := { program := "ytpkpnhgkhkgenaa", sum := "826d5f0ac66f96cfa154807e532731c8b7b6bb1538a05be21b1cbd74d4b7cdad", func := "loop.example/g01113/laws.FnExactConvexSum", spec := "fnExactConvexSum", apart := false, narrowed := true }
def FnExactConvexSumUptoSaid : Prop := fnExactConvexSumUptoRow.holds Try.pinned (OpenSpec.upto fnExactConvexSumSpec)

/-- 'laws.FnExactArrangedSum', WHERE WHAT IT READS IS OF BULK AT MOST 1048576: true; the input reads as it did. -/
def fnExactArrangedSumUptoRow : OpenClaim := { program := "ytpkpnhgkhkgenaa", sum := "826d5f0ac66f96cfa154807e532731c8b7b6bb1538a05be21b1cbd74d4b7cdad", func := "loop.example/g01113/laws.FnExactArrangedSum", spec := "fnExactArrangedSum", apart := false, narrowed := true }
def FnExactArrangedSumUptoSaid : Prop := fnExactArrangedSumUptoRow.holds Try.pinned (OpenSpec.upto fnExactArrangedSumSpec)

/-- 'laws.FnExactExcessOver', WHERE WHAT IT READS IS OF BULK AT MOST 1048576: true; the input reads as it did. -/
def fnExactExcessOverUptoRow : OpenClaim := { program := "ytpkpnhgkhkgenaa", sum := "826d5f0ac66f96cfa154807e532731c8b7b6bb1538a05be21b1cbd74d4b7cdad", func := "loop.example/g01113/laws.FnExactExcessOver", spec := "fnExactExcessOver", apart := false, narrowed := true }
def FnExactExcessOverUptoSaid : Prop := fnExactExcessOverUptoRow.holds Try.pinned (OpenSpec.upto fnExactExcessOverSpec)

/-- 'laws.FnExactIsGrid', WHERE WHAT IT READS IS OF BULK AT MOST 1048576: true; the input reads as it did. -/
def fnExactIsGridUptoRow : OpenClaim := { program := "ytpkpnhgkhkgenaa", sum := "826d5f0ac66f96cfa154807e532731c8b7b6bb1538a05be21b1cbd74d4b7cdad", func := "loop.example/g01113/laws.FnExactIsGrid", spec := "fnExactIsGrid", unfollowed := true, recurses := true, apart := false, narrowed := true }
def FnExactIsGridUptoSaid : Prop := fnExactIsGridUptoRow.holds Try.pinned (OpenSpec.upto fnExactIsGridSpec)

/-- 'laws.FnExactIsTournament', WHERE WHAT IT READS IS OF BULK AT MOST 1048576: true; the input reads as it did. -/
def fnExactIsTournamentUptoRow : OpenClaim := { program := "ytpkpnhgkhkgenaa", sum := "826d5f0ac66f96cfa154807e532731c8b7b6bb1538a05be21b1cbd74d4b7cdad", func := "loop.example/g01113/laws.FnExactIsTournament", spec := "fnExactIsTournament", apart := false, narrowed := true }
def FnExactIsTournamentUptoSaid : Prop := fnExactIsTournamentUptoRow.holds Try.pinned (OpenSpec.upto fnExactIsTournamentSpec)

/-- 'laws.FnExactGrowThreshold', WHERE WHAT IT READS IS OF BULK AT MOST 1048576: true; the input reads as it did. -/
def fnExactGrowThresholdUptoRow : OpenClaim := { program := "ytpkpnhgkhkgenaa", sum := "826d5f0ac66f96cfa154807e532731c8b7b6bb1538a05be21b1cbd74d4b7cdad", func := "loop.example/g01113/laws.FnExactGrowThreshold", spec := "fnExactGrowThreshold", apart := false, narrowed := true }
def FnExactGrowThresholdUptoSaid : Prop := fnExactGrowThresholdUptoRow.holds Try.pinned (OpenSpec.upto fnExactGrowThresholdSpec)

/-- 'laws.FnExactGridsApart', WHERE WHAT IT READS IS OF BULK AT MOST 1048576: true; the input reads as it did. -/
def fnExactGridsApartUptoRow : OpenClaim := { program := "ytpkpnhgkhkgenaa", sum := "826d5f0ac66f96cfa154807e532731c8b7b6bb1538a05be21b1cbd74d4b7cdad", func := "loop.example/g01113/laws.FnExactGridsApart", spec := "fnExactGridsApart", unfollowed := true, recurses := true, apart := false, narrowed := true }
def FnExactGridsApartUptoSaid : Prop := fnExactGridsApartUptoRow.holds Try.pinned (OpenSpec.upto fnExactGridsApartSpec)

end Rows
end Go.Proofs.Ytpkpnhgkhkgenaa
