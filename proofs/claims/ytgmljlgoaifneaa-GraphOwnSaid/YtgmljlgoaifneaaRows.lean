/-
  No cell of these rows narrows 'for every input' (looked for: loops, veiled, ifaces, maps, wideKeys, modest, calm, conditions, laid).
  DERIVED. THE GIVEN ROWS OF THIS SEAT. 7 by the template 'for every input the law returns true; each argument reads behind the call as it read before'; 0 by the template 'total and deterministic' (their statements: YtgmljlgoaifneaaTotals.lean).
  GIVEN WITH THE SEED: the statements are not yours to turn. If you find one false, say at which input.
  Laid BY PROGRAM, IN A SANDBOX (cutbox-rows.mjs): the forced cells as the released guide's own fill.sh prints them over the translation 5b22650ed55eb34e… (all of the seat's roots in one cut). By AI agents, Wed Nov 11 2026. No macro, syntax, notation, axiom, sorry.
-/
import Derived.Test.YtgmljlgoaifneaaChecked
import GoSem.Claim
import GoSem.ClaimJoined
import GoSem.ClaimMapViews
import Derived.JoinedTies
import Derived.KernelRfl
namespace Go.Proofs.Ytgmljlgoaifneaa
/- THE CELL 'sum', in the pinned program and in every row, IS THE sha256 OF THE DUMP (.gsa) THAT YtgmljlgoaifneaaProg.lean LOADS. Nothing in Lean hashes anything: it is a label: what it is worth is what the hold of that sum in a sandbox is worth. -/
noncomputable def Try.pinned : Pinned := { name := "ytgmljlgoaifneaa", sum := "5b22650ed55eb34e77a57ffcdb07b6ccd18aeb5ad43de47d0d80d7cc2a552f55", checked := Try.checked }
namespace Rows
def none {H : Type} : Left H := { results := [], args := [] }

/-- 'beaconlaw07.GraphChecks': WHATEVER THE INPUT: true; the input reads as it did. -/
def graphChecksSpec : ChangeSpec := { name := "graphChecks", fn := fun _ => fun
  | [d] => { results := [.lit (.bool true)], args := [d] }
  | _ => none }
def graphChecksRow : OpenClaim := { program := "ytgmljlgoaifneaa", sum := "5b22650ed55eb34e77a57ffcdb07b6ccd18aeb5ad43de47d0d80d7cc2a552f55", func := "beacon/beaconlaw07.GraphChecks", spec := "graphChecks", inPlace := ["math.Float64bits", "math.Float64frombits", "math.archTrunc", "slices.overlaps[beacon/api.Node]", "slices.overlaps[beacon/api.Link]"], unfollowed := true, recurses := true, apart := false }
def GraphChecksSaid : Prop := graphChecksRow.holds Try.pinned (OpenSpec.ofChange graphChecksSpec)

/-- ITS FALSE NEIGHBOUR: 'it returns false'. Refute it at one input. -/
def graphChecksWrong : ChangeSpec := { name := "graphChecks", fn := fun _ => fun
  | [d] => { results := [.lit (.bool false)], args := [d] }
  | _ => none }
def GraphChecksWrongFalsely : Prop := graphChecksRow.holds Try.pinned (OpenSpec.ofChange graphChecksWrong)

/-- 'beaconlaw07.GraphPlays': WHATEVER THE INPUT: true; the input reads as it did. -/
def graphPlaysSpec : ChangeSpec := { name := "graphPlays", fn := fun _ => fun
  | [d] => { results := [.lit (.bool true)], args := [d] }
  | _ => none }
def graphPlaysRow : OpenClaim := { program := "ytgmljlgoaifneaa", sum := "5b22650ed55eb34e77a57ffcdb07b6ccd18aeb5ad43de47d0d80d7cc2a552f55", func := "beacon/beaconlaw07.GraphPlays", spec := "graphPlays", inPlace := ["slices.overlaps[beacon/api.Node]", "math.Float64bits", "math.Float64frombits", "math.archTrunc", "slices.overlaps[beacon/api.Link]"], unfollowed := true, recurses := true, apart := false }
def GraphPlaysSaid : Prop := graphPlaysRow.holds Try.pinned (OpenSpec.ofChange graphPlaysSpec)

/-- ITS FALSE NEIGHBOUR: 'it returns false'. Refute it at one input. -/
def graphPlaysWrong : ChangeSpec := { name := "graphPlays", fn := fun _ => fun
  | [d] => { results := [.lit (.bool false)], args := [d] }
  | _ => none }
def GraphPlaysWrongFalsely : Prop := graphPlaysRow.holds Try.pinned (OpenSpec.ofChange graphPlaysWrong)

/-- 'beaconlaw07.GraphApplies': WHATEVER THE INPUT: true; the input reads as it did. -/
def graphAppliesSpec : ChangeSpec := { name := "graphApplies", fn := fun _ => fun
  | [d1, d2] => { results := [.lit (.bool true)], args := [d1, d2] }
  | _ => none }
def graphAppliesRow : OpenClaim := { program := "ytgmljlgoaifneaa", sum := "5b22650ed55eb34e77a57ffcdb07b6ccd18aeb5ad43de47d0d80d7cc2a552f55", func := "beacon/beaconlaw07.GraphApplies", spec := "graphApplies", inPlace := ["math.Float64bits", "math.Float64frombits", "math.archTrunc", "slices.overlaps[beacon/api.Node]", "slices.overlaps[beacon/api.Link]"], unfollowed := true, recurses := true, apart := false }
def GraphAppliesSaid : Prop := graphAppliesRow.holds Try.pinned (OpenSpec.ofChange graphAppliesSpec)

/-- ITS FALSE NEIGHBOUR: 'it returns false'. Refute it at one input. -/
def graphAppliesWrong : ChangeSpec := { name := "graphApplies", fn := fun _ => fun
  | [d1, d2] => { results := [.lit (.bool false)], args := [d1, d2] }
  | _ => none }
def GraphAppliesWrongFalsely : Prop := graphAppliesRow.holds Try.pinned (OpenSpec.ofChange graphAppliesWrong)

/-- 'beaconlaw07.GraphLives': WHATEVER THE INPUT: true; the input reads as it did. -/
def graphLivesSpec : ChangeSpec := { name := "graphLives", fn := fun _ => fun
  | [d] => { results := [.lit (.bool true)], args := [d] }
  | _ => none }
def graphLivesRow : OpenClaim := { program := "ytgmljlgoaifneaa", sum := "5b22650ed55eb34e77a57ffcdb07b6ccd18aeb5ad43de47d0d80d7cc2a552f55", func := "beacon/beaconlaw07.GraphLives", spec := "graphLives", inPlace := ["math.Float64bits", "math.Float64frombits", "math.archTrunc", "slices.overlaps[beacon/api.Node]", "slices.overlaps[beacon/api.Link]"], unfollowed := true, recurses := true, apart := false }
def GraphLivesSaid : Prop := graphLivesRow.holds Try.pinned (OpenSpec.ofChange graphLivesSpec)

/-- ITS FALSE NEIGHBOUR: 'it returns false'. Refute it at one input. -/
def graphLivesWrong : ChangeSpec := { name := "graphLives", fn := fun _ => fun
  | [d] => { results := [.lit (.bool false)], args := [d] }
  | _ => none }
def GraphLivesWrongFalsely : Prop := graphLivesRow.holds Try.pinned (OpenSpec.ofChange graphLivesWrong)

/-- 'beaconlaw07.GraphUndoes': WHATEVER THE INPUT: true; the input reads as it did. -/
def graphUndoesSpec : ChangeSpec := { name := "graphUndoes", fn := fun _ => fun
  | [d1, d2, d3] => { results := [.lit (.bool true)], args := [d1, d2, d3] }
  | _ => none }
def graphUndoesRow : OpenClaim := { program := "ytgmljlgoaifneaa", sum := "5b22650ed55eb34e77a57ffcdb07b6ccd18aeb5ad43de47d0d80d7cc2a552f55", func := "beacon/beaconlaw07.GraphUndoes", spec := "graphUndoes", inPlace := ["math.Float64bits", "math.Float64frombits", "math.archTrunc", "slices.overlaps[beacon/api.Node]", "slices.overlaps[beacon/api.Link]"], unfollowed := true, recurses := true, apart := false }
def GraphUndoesSaid : Prop := graphUndoesRow.holds Try.pinned (OpenSpec.ofChange graphUndoesSpec)

/-- ITS FALSE NEIGHBOUR: 'it returns false'. Refute it at one input. -/
def graphUndoesWrong : ChangeSpec := { name := "graphUndoes", fn := fun _ => fun
  | [d1, d2, d3] => { results := [.lit (.bool false)], args := [d1, d2, d3] }
  | _ => none }
def GraphUndoesWrongFalsely : Prop := graphUndoesRow.holds Try.pinned (OpenSpec.ofChange graphUndoesWrong)

/-- 'beaconlaw07.GraphNeighbours': WHATEVER THE INPUT: true; the input reads as it did. -/
def graphNeighboursSpec : ChangeSpec := { name := "graphNeighbours", fn := fun _ => fun
  | [d1, d2] => { results := [.lit (.bool true)], args := [d1, d2] }
  | _ => none }
def graphNeighboursRow : OpenClaim := { program := "ytgmljlgoaifneaa", sum := "5b22650ed55eb34e77a57ffcdb07b6ccd18aeb5ad43de47d0d80d7cc2a552f55", func := "beacon/beaconlaw07.GraphNeighbours", spec := "graphNeighbours", inPlace := ["math.Float64bits", "math.Float64frombits", "math.archTrunc", "slices.overlaps[beacon/api.Node]", "slices.overlaps[beacon/api.Link]"], unfollowed := true, recurses := true, apart := false }
def GraphNeighboursSaid : Prop := graphNeighboursRow.holds Try.pinned (OpenSpec.ofChange graphNeighboursSpec)

/-- ITS FALSE NEIGHBOUR: 'it returns false'. Refute it at one input. -/
def graphNeighboursWrong : ChangeSpec := { name := "graphNeighbours", fn := fun _ => fun
  | [d1, d2] => { results := [.lit (.bool false)], args := [d1, d2] }
  | _ => none }
def GraphNeighboursWrongFalsely : Prop := graphNeighboursRow.holds Try.pinned (OpenSpec.ofChange graphNeighboursWrong)

/-- 'beaconlaw07.GraphOwn': WHATEVER THE INPUT: true; the input reads as it did. -/
def graphOwnSpec : ChangeSpec := { name := "graphOwn", fn := fun _ => fun
  | [d1, d2] => { results := [.lit (.bool true)], args := [d1, d2] }
  | _ => none }
def graphOwnRow : OpenClaim := { program := "ytgmljlgoaifneaa", sum := "5b22650ed55eb34e77a57ffcdb07b6ccd18aeb5ad43de47d0d80d7cc2a552f55", func := "beacon/beaconlaw07.GraphOwn", spec := "graphOwn", inPlace := ["math.Float64bits", "math.Float64frombits", "math.archTrunc", "slices.overlaps[beacon/api.Node]", "slices.overlaps[beacon/api.Link]"], unfollowed := true, recurses := true, apart := false }
def GraphOwnSaid : Prop := graphOwnRow.holds Try.pinned (OpenSpec.ofChange graphOwnSpec)

/-- ITS FALSE NEIGHBOUR: 'it returns false'. Refute it at one input. -/
def graphOwnWrong : ChangeSpec := { name := "graphOwn", fn := fun _ => fun
  | [d1, d2] => { results := [.lit (.bool false)], args := [d1, d2] }
  | _ => none }
def GraphOwnWrongFalsely : Prop := graphOwnRow.holds Try.pinned (OpenSpec.ofChange graphOwnWrong)

/- THE SECOND FORM. 'bulk': how many values and letters a reading holds, each counted each time it is reached (what is shared counts as often as it is met; a slice's spare places count too). A statement '..UptoSaid' is the law's where the arguments, and the package variables that the reading takes, are together of bulk at most 1048576: NARROWER than '..Said'. Prove '..Said' where nothing that the law and all that it calls make is longer than what came in: it says more and counts as full. Else prove '..UptoSaid'. A law counts once. -/
mutual
def uptoBulk {H : Type} : DataW H → Nat
  | .lit (.string bytes) => bytes.length + 1
  | .lit _ => 1
  | .nil => 1
  | .ptr d => uptoBulk d + 1
  | .slice elems spare => uptoBulkAll elems + uptoBulkAll spare + 1
  | .agg parts => uptoBulkAll parts + 1
  | .iface _ d => uptoBulk d + 1
  | .map entries => uptoBulkEntries entries + 1
  | .held _ => 1
def uptoBulkAll {H : Type} : List (DataW H) → Nat
  | [] => 0
  | d :: r => uptoBulk d + uptoBulkAll r
def uptoBulkEntries {H : Type} : List (Lit × DataW H) → Nat
  | [] => 0
  | x :: r => uptoBulkEntry x + uptoBulkEntries r
def uptoBulkEntry {H : Type} : Lit × DataW H → Nat
  | (.string bytes, d) => bytes.length + uptoBulk d + 1
  | (_, d) => uptoBulk d + 1
 end
def uptoSmall : (H : Type) → List (DataW H) → Bool := fun _ ds => decide (uptoBulkAll ds ≤ 1048576)
def OpenSpec.upto (s : _root_.Go.ChangeSpec) : _root_.Go.OpenSpec := { _root_.Go.OpenSpec.ofChange s with cond := some uptoSmall }

/-- 'beaconlaw07.GraphChecks', WHERE WHAT IT READS IS OF BULK AT MOST 1048576: true; the input reads as it did. -/
def graphChecksUptoRow : OpenClaim := { program := "ytgmljlgoaifneaa", sum := "5b22650ed55eb34e77a57ffcdb07b6ccd18aeb5ad43de47d0d80d7cc2a552f55", func := "beacon/beaconlaw07.GraphChecks", spec := "graphChecks", inPlace := ["math.Float64bits", "math.Float64frombits", "math.archTrunc", "slices.overlaps[beacon/api.Node]", "slices.overlaps[beacon/api.Link]"], unfollowed := true, recurses := true, apart := false, narrowed := true }
def GraphChecksUptoSaid : Prop := graphChecksUptoRow.holds Try.pinned (OpenSpec.upto graphChecksSpec)

/-- 'beaconlaw07.GraphPlays', WHERE WHAT IT READS IS OF BULK AT MOST 1048576: true; the input reads as it did. -/
def graphPlaysUptoRow : OpenClaim := { program := "ytgmljlgoaifneaa", sum := "5b22650ed55eb34e77a57ffcdb07b6ccd18aeb5ad43de47d0d80d7cc2a552f55", func := "beacon/beaconlaw07.GraphPlays", spec := "graphPlays", inPlace := ["slices.overlaps[beacon/api.Node]", "math.Float64bits", "math.Float64frombits", "math.archTrunc", "slices.overlaps[beacon/api.Link]"], unfollowed := true, recurses := true, apart := false, narrowed := true }
def GraphPlaysUptoSaid : Prop := graphPlaysUptoRow.holds Try.pinned (OpenSpec.upto graphPlaysSpec)

/-- 'beaconlaw07.GraphApplies', WHERE WHAT IT READS IS OF BULK AT MOST 1048576: true; the input reads as it did. -/
def graphAppliesUptoRow : OpenClaim := { program := "ytgmljlgoaifneaa", sum := "5b22650ed55eb34e77a57ffcdb07b6ccd18aeb5ad43de47d0d80d7cc2a552f55", func := "beacon/beaconlaw07.GraphApplies", spec := "graphApplies", inPlace := ["math.Float64bits", "math.Float64frombits", "math.archTrunc", "slices.overlaps[beacon/api.Node]", "slices.overlaps[beacon/api.Link]"], unfollowed := true, recurses := true, apart := false, narrowed := true }
def GraphAppliesUptoSaid : Prop := graphAppliesUptoRow.holds Try.pinned (OpenSpec.upto graphAppliesSpec)

/-- 'beaconlaw07.GraphLives', WHERE WHAT IT READS IS OF BULK AT MOST 1048576: true; the input reads as it did. -/
def graphLivesUptoRow : OpenClaim := { program := "ytgmljlgoaifneaa", sum := "5b22650ed55eb34e77a57ffcdb07b6ccd18aeb5ad43de47d0d80d7cc2a552f55", func := "beacon/beaconlaw07.GraphLives", spec := "graphLives", inPlace := ["math.Float64bits", "math.Float64frombits", "math.archTrunc", "slices.overlaps[beacon/api.Node]", "slices.overlaps[beacon/api.Link]"], unfollowed := true, recurses := true, apart := false, narrowed := true }
def GraphLivesUptoSaid : Prop := graphLivesUptoRow.holds Try.pinned (OpenSpec.upto graphLivesSpec)

/-- 'beaconlaw07.GraphUndoes', WHERE WHAT IT READS IS OF BULK AT MOST 1048576: true; the input reads as it did. -/
def graphUndoesUptoRow : OpenClaim := { program := "ytgmljlgoaifneaa", sum := "5b22650ed55eb34e77a57ffcdb07b6ccd18aeb5ad43de47d0d80d7cc2a552f55", func := "beacon/beaconlaw07.GraphUndoes", spec := "graphUndoes", inPlace := ["math.Float64bits", "math.Float64frombits", "math.archTrunc", "slices.overlaps[beacon/api.Node]", "slices.overlaps[beacon/api.Link]"], unfollowed := true, recurses := true, apart := false, narrowed := true }
def GraphUndoesUptoSaid : Prop := graphUndoesUptoRow.holds Try.pinned (OpenSpec.upto graphUndoesSpec)

/-- 'beaconlaw07.GraphNeighbours', WHERE WHAT IT READS IS OF BULK AT MOST 1048576: true; the input reads as it did. -/
def graphNeighboursUptoRow : OpenClaim := { program := "ytgmljlgoaifneaa", sum := "5b22650ed55eb34e77a57ffcdb07b6ccd18aeb5ad43de47d0d80d7cc2a552f55", func := "beacon/beaconlaw07.GraphNeighbours", spec := "graphNeighbours", inPlace := ["math.Float64bits", "math.Float64frombits", "math.archTrunc", "slices.overlaps[beacon/api.Node]", "slices.overlaps[beacon/api.Link]"], unfollowed := true, recurses := true, apart := false, narrowed := true }
def GraphNeighboursUptoSaid : Prop := graphNeighboursUptoRow.holds Try.pinned (OpenSpec.upto graphNeighboursSpec)

/-- 'beaconlaw07.GraphOwn', WHERE WHAT IT READS IS OF BULK AT MOST 1048576: true; the input reads as it did. -/
def graphOwnUptoRow : OpenClaim := { program := "ytgmljlgoaifneaa", sum := "5b22650ed55eb34e77a57ffcdb07b6ccd18aeb5ad43de47d0d80d7cc2a552f55", func := "beacon/beaconlaw07.GraphOwn", spec := "graphOwn", inPlace := ["math.Float64bits", "math.Float64frombits", "math.archTrunc", "slices.overlaps[beacon/api.Node]", "slices.overlaps[beacon/api.Link]"], unfollowed := true, recurses := true, apart := false, narrowed := true }
def GraphOwnUptoSaid : Prop := graphOwnUptoRow.holds Try.pinned (OpenSpec.upto graphOwnSpec)

end Rows
end Go.Proofs.Ytgmljlgoaifneaa
