/-
  No cell of these rows narrows 'for every input' (looked for: loops, veiled, ifaces, maps, wideKeys, modest, calm, conditions, laid).
  DERIVED. THE GIVEN ROWS OF THIS SEAT. 9 by the template 'for every input the law returns true; each argument reads behind the call as it read before'; 0 by the template 'total and deterministic' (their statements: YtcpbanekjncekaaTotals.lean).
  GIVEN WITH THE SEED: the statements are not yours to turn. If you find one false, say at which input.
  Laid BY PROGRAM, IN A SANDBOX (cutbox-rows.mjs): the forced cells as the released guide's own fill.sh prints them over the translation 80fe72673e7c13c2… (all of the seat's roots in one cut). By AI agents, Wed Nov 11 2026. No macro, syntax, notation, axiom, sorry.
-/
import Derived.Test.YtcpbanekjncekaaChecked
import GoSem.Claim
import GoSem.ClaimJoined
import GoSem.ClaimMapViews
import Derived.JoinedTies
import Derived.KernelRfl
namespace Go.Proofs.Ytcpbanekjncekaa
/- THE CELL 'sum', in the pinned program and in every row, IS THE sha256 OF THE DUMP (.gsa) THAT YtcpbanekjncekaaProg.lean LOADS. Nothing in Lean hashes anything: it is a label: what it is worth is what the hold of that sum in a sandbox is worth. -/
noncomputable def Try.pinned : Pinned := { name := "ytcpbanekjncekaa", sum := "80fe72673e7c13c27d70bd948e52dcb4959887f2849d96ad535182d097c3e5cf", checked := Try.checked }
namespace Rows
def none {H : Type} : Left H := { results := [], args := [] }

/-- 'beaconlaw01.MetricWeights': WHATEVER THE INPUT: true; the input reads as it did. -/
def metricWeightsSpec : ChangeSpec := { name := "metricWeights", fn := fun _ => fun
  | [d] => { results := [.lit (.bool true)], args := [d] }
  | _ => none }
def metricWeightsRow : OpenClaim := { program := "ytcpbanekjncekaa", sum := "80fe72673e7c13c27d70bd948e52dcb4959887f2849d96ad535182d097c3e5cf", func := "beacon/beaconlaw01.MetricWeights", spec := "metricWeights", inPlace := ["math.Float64bits", "math.Float64frombits", "math.archTrunc"], apart := false }
def MetricWeightsSaid : Prop := metricWeightsRow.holds Try.pinned (OpenSpec.ofChange metricWeightsSpec)

/-- ITS FALSE NEIGHBOUR: 'it returns false'. Refute it at one input. -/
def metricWeightsWrong : ChangeSpec := { name := "metricWeights", fn := fun _ => fun
  | [d] => { results := [.lit (.bool false)], args := [d] }
  | _ => none }
def MetricWeightsWrongFalsely : Prop := metricWeightsRow.holds Try.pinned (OpenSpec.ofChange metricWeightsWrong)

/-- 'beaconlaw01.MetricAdds': WHATEVER THE INPUT: true; the input reads as it did. -/
def metricAddsSpec : ChangeSpec := { name := "metricAdds", fn := fun _ => fun
  | [d1, d2, d3] => { results := [.lit (.bool true)], args := [d1, d2, d3] }
  | _ => none }
def metricAddsRow : OpenClaim := { program := "ytcpbanekjncekaa", sum := "80fe72673e7c13c27d70bd948e52dcb4959887f2849d96ad535182d097c3e5cf", func := "beacon/beaconlaw01.MetricAdds", spec := "metricAdds", inPlace := ["math.Float64frombits", "math.Float64bits", "math.archTrunc"], apart := false }
def MetricAddsSaid : Prop := metricAddsRow.holds Try.pinned (OpenSpec.ofChange metricAddsSpec)

/-- ITS FALSE NEIGHBOUR: 'it returns false'. Refute it at one input. -/
def metricAddsWrong : ChangeSpec := { name := "metricAdds", fn := fun _ => fun
  | [d1, d2, d3] => { results := [.lit (.bool false)], args := [d1, d2, d3] }
  | _ => none }
def MetricAddsWrongFalsely : Prop := metricAddsRow.holds Try.pinned (OpenSpec.ofChange metricAddsWrong)

/-- 'beaconlaw01.MetricLimits': WHATEVER THE INPUT: true; the input reads as it did. -/
def metricLimitsSpec : ChangeSpec := { name := "metricLimits", fn := fun _ => fun
  | [d] => { results := [.lit (.bool true)], args := [d] }
  | _ => none }
def metricLimitsRow : OpenClaim := { program := "ytcpbanekjncekaa", sum := "80fe72673e7c13c27d70bd948e52dcb4959887f2849d96ad535182d097c3e5cf", func := "beacon/beaconlaw01.MetricLimits", spec := "metricLimits", inPlace := ["math.Float64bits", "math.Float64frombits", "math.archTrunc"], apart := false }
def MetricLimitsSaid : Prop := metricLimitsRow.holds Try.pinned (OpenSpec.ofChange metricLimitsSpec)

/-- ITS FALSE NEIGHBOUR: 'it returns false'. Refute it at one input. -/
def metricLimitsWrong : ChangeSpec := { name := "metricLimits", fn := fun _ => fun
  | [d] => { results := [.lit (.bool false)], args := [d] }
  | _ => none }
def MetricLimitsWrongFalsely : Prop := metricLimitsRow.holds Try.pinned (OpenSpec.ofChange metricLimitsWrong)

/-- 'beaconlaw01.MetricDists': WHATEVER THE INPUT: true; the input reads as it did. -/
def metricDistsSpec : ChangeSpec := { name := "metricDists", fn := fun _ => fun
  | [d1, d2] => { results := [.lit (.bool true)], args := [d1, d2] }
  | _ => none }
def metricDistsRow : OpenClaim := { program := "ytcpbanekjncekaa", sum := "80fe72673e7c13c27d70bd948e52dcb4959887f2849d96ad535182d097c3e5cf", func := "beacon/beaconlaw01.MetricDists", spec := "metricDists", inPlace := ["math.Float64bits", "math.Float64frombits", "math.archTrunc"], apart := false }
def MetricDistsSaid : Prop := metricDistsRow.holds Try.pinned (OpenSpec.ofChange metricDistsSpec)

/-- ITS FALSE NEIGHBOUR: 'it returns false'. Refute it at one input. -/
def metricDistsWrong : ChangeSpec := { name := "metricDists", fn := fun _ => fun
  | [d1, d2] => { results := [.lit (.bool false)], args := [d1, d2] }
  | _ => none }
def MetricDistsWrongFalsely : Prop := metricDistsRow.holds Try.pinned (OpenSpec.ofChange metricDistsWrong)

/-- 'beaconlaw01.MetricCompares': WHATEVER THE INPUT: true; the input reads as it did. -/
def metricComparesSpec : ChangeSpec := { name := "metricCompares", fn := fun _ => fun
  | [d1, d2] => { results := [.lit (.bool true)], args := [d1, d2] }
  | _ => none }
def metricComparesRow : OpenClaim := { program := "ytcpbanekjncekaa", sum := "80fe72673e7c13c27d70bd948e52dcb4959887f2849d96ad535182d097c3e5cf", func := "beacon/beaconlaw01.MetricCompares", spec := "metricCompares", inPlace := ["math.Float64bits", "math.Float64frombits", "math.archTrunc"], apart := false }
def MetricComparesSaid : Prop := metricComparesRow.holds Try.pinned (OpenSpec.ofChange metricComparesSpec)

/-- ITS FALSE NEIGHBOUR: 'it returns false'. Refute it at one input. -/
def metricComparesWrong : ChangeSpec := { name := "metricCompares", fn := fun _ => fun
  | [d1, d2] => { results := [.lit (.bool false)], args := [d1, d2] }
  | _ => none }
def MetricComparesWrongFalsely : Prop := metricComparesRow.holds Try.pinned (OpenSpec.ofChange metricComparesWrong)

/-- 'beaconlaw01.MetricOrders': WHATEVER THE INPUT: true; the input reads as it did. -/
def metricOrdersSpec : ChangeSpec := { name := "metricOrders", fn := fun _ => fun
  | [d1, d2, d3] => { results := [.lit (.bool true)], args := [d1, d2, d3] }
  | _ => none }
def metricOrdersRow : OpenClaim := { program := "ytcpbanekjncekaa", sum := "80fe72673e7c13c27d70bd948e52dcb4959887f2849d96ad535182d097c3e5cf", func := "beacon/beaconlaw01.MetricOrders", spec := "metricOrders", inPlace := ["math.Float64bits", "math.Float64frombits", "math.archTrunc"], apart := false }
def MetricOrdersSaid : Prop := metricOrdersRow.holds Try.pinned (OpenSpec.ofChange metricOrdersSpec)

/-- ITS FALSE NEIGHBOUR: 'it returns false'. Refute it at one input. -/
def metricOrdersWrong : ChangeSpec := { name := "metricOrders", fn := fun _ => fun
  | [d1, d2, d3] => { results := [.lit (.bool false)], args := [d1, d2, d3] }
  | _ => none }
def MetricOrdersWrongFalsely : Prop := metricOrdersRow.holds Try.pinned (OpenSpec.ofChange metricOrdersWrong)

/-- 'beaconlaw01.MetricLeast': WHATEVER THE INPUT: true; the input reads as it did. -/
def metricLeastSpec : ChangeSpec := { name := "metricLeast", fn := fun _ => fun
  | [d] => { results := [.lit (.bool true)], args := [d] }
  | _ => none }
def metricLeastRow : OpenClaim := { program := "ytcpbanekjncekaa", sum := "80fe72673e7c13c27d70bd948e52dcb4959887f2849d96ad535182d097c3e5cf", func := "beacon/beaconlaw01.MetricLeast", spec := "metricLeast", inPlace := ["math.Float64bits", "math.Float64frombits", "math.archTrunc"], apart := false }
def MetricLeastSaid : Prop := metricLeastRow.holds Try.pinned (OpenSpec.ofChange metricLeastSpec)

/-- ITS FALSE NEIGHBOUR: 'it returns false'. Refute it at one input. -/
def metricLeastWrong : ChangeSpec := { name := "metricLeast", fn := fun _ => fun
  | [d] => { results := [.lit (.bool false)], args := [d] }
  | _ => none }
def MetricLeastWrongFalsely : Prop := metricLeastRow.holds Try.pinned (OpenSpec.ofChange metricLeastWrong)

/-- 'beaconlaw01.MetricSums': WHATEVER THE INPUT: true; the input reads as it did. -/
def metricSumsSpec : ChangeSpec := { name := "metricSums", fn := fun _ => fun
  | [d1, d2, d3] => { results := [.lit (.bool true)], args := [d1, d2, d3] }
  | _ => none }
def metricSumsRow : OpenClaim := { program := "ytcpbanekjncekaa", sum := "80fe72673e7c13c27d70bd948e52dcb4959887f2849d96ad535182d097c3e5cf", func := "beacon/beaconlaw01.MetricSums", spec := "metricSums", inPlace := ["math.Float64frombits", "math.Float64bits", "math.archTrunc"], apart := false }
def MetricSumsSaid : Prop := metricSumsRow.holds Try.pinned (OpenSpec.ofChange metricSumsSpec)

/-- ITS FALSE NEIGHBOUR: 'it returns false'. Refute it at one input. -/
def metricSumsWrong : ChangeSpec := { name := "metricSums", fn := fun _ => fun
  | [d1, d2, d3] => { results := [.lit (.bool false)], args := [d1, d2, d3] }
  | _ => none }
def MetricSumsWrongFalsely : Prop := metricSumsRow.holds Try.pinned (OpenSpec.ofChange metricSumsWrong)

/-- 'beaconlaw01.MetricRounds': WHATEVER THE INPUT: true; the input reads as it did. -/
def metricRoundsSpec : ChangeSpec := { name := "metricRounds", fn := fun _ => fun
  | [d] => { results := [.lit (.bool true)], args := [d] }
  | _ => none }
def metricRoundsRow : OpenClaim := { program := "ytcpbanekjncekaa", sum := "80fe72673e7c13c27d70bd948e52dcb4959887f2849d96ad535182d097c3e5cf", func := "beacon/beaconlaw01.MetricRounds", spec := "metricRounds", inPlace := ["math.RoundToEven", "math.archFloor", "math.Float64bits", "math.Float64frombits", "math.archTrunc"], apart := false }
def MetricRoundsSaid : Prop := metricRoundsRow.holds Try.pinned (OpenSpec.ofChange metricRoundsSpec)

/-- ITS FALSE NEIGHBOUR: 'it returns false'. Refute it at one input. -/
def metricRoundsWrong : ChangeSpec := { name := "metricRounds", fn := fun _ => fun
  | [d] => { results := [.lit (.bool false)], args := [d] }
  | _ => none }
def MetricRoundsWrongFalsely : Prop := metricRoundsRow.holds Try.pinned (OpenSpec.ofChange metricRoundsWrong)

/- THE SECOND FORM. 'bulk': how many values and letters a reading holds, each counted each time it is reached (what is shared counts as often as it is met; a slice's spare places count too). A statement '..UptoSaid' is the law's where the arguments, and the package variables that the reading takes, are together of bulk at most 1048576: NARROWER than '..Said'. Prove '..Said' where nothing that the law and all that it calls make is longer than what came in: it says more and counts as full. Else prove '..UptoSaid'. A law counts once. -/
mutual
def uptoBulk {H : Type} : DataW H → Nat
  | .lit (.string bytes) => bytes.length + 1
  | .lit _ => 1
  | .nil => 1
  | .ptr d => uptoBulk d + 1
  | .slice elems spare => uptoBulkAll elems + uptoBulkAll spare + 1
  | .agg parts => uptoBulkAll parts + 1
  | .iface _ d => uptoBulk d + 1
  | .map entries => uptoBulkEntries entries + 1
  | .held _ => 1
def uptoBulkAll {H : Type} : List (DataW H) → Nat
  | [] => 0
  | d :: r => uptoBulk d + uptoBulkAll r
def uptoBulkEntries {H : Type} : List (Lit × DataW H) → Nat
  | [] => 0
  | x :: r => uptoBulkEntry x + uptoBulkEntries r
def uptoBulkEntry {H : Type} : Lit × DataW H → Nat
  | (.string bytes, d) => bytes.length + uptoBulk d + 1
  | (_, d) => uptoBulk d + 1
 end
def uptoSmall : (H : Type) → List (DataW H) → Bool := fun _ ds => decide (uptoBulkAll ds ≤ 1048576)
def OpenSpec.upto (s : _root_.Go.ChangeSpec) : _root_.Go.OpenSpec := { _root_.Go.OpenSpec.ofChange s with cond := some uptoSmall }

/-- 'beaconlaw01.MetricWeights', WHERE WHAT IT READS IS OF BULK AT MOST 1048576: true; the input reads as it did. -/
def metricWeightsUptoRow : OpenClaim := { program := "ytcpbanekjncekaa", sum := "80fe72673e7c13c27d70bd948e52dcb4959887f2849d96ad535182d097c3e5cf", func := "beacon/beaconlaw01.MetricWeights", spec := "metricWeights", inPlace := ["math.Float64bits", "math.Float64frombits", "math.archTrunc"], apart := false, narrowed := true }
def MetricWeightsUptoSaid : Prop := metricWeightsUptoRow.holds Try.pinned (OpenSpec.upto metricWeightsSpec)

/-- 'beaconlaw01.MetricAdds', WHERE WHAT IT READS IS OF BULK AT MOST 1048576: true; the input reads as it did. -/
def metricAddsUptoRow : OpenClaim := { program := "ytcpbanekjncekaa", sum := "80fe72673e7c13c27d70bd948e52dcb4959887f2849d96ad535182d097c3e5cf", func := "beacon/beaconlaw01.MetricAdds", spec := "metricAdds", inPlace := ["math.Float64frombits", "math.Float64bits", "math.archTrunc"], apart := false, narrowed := true }
def MetricAddsUptoSaid : Prop := metricAddsUptoRow.holds Try.pinned (OpenSpec.upto metricAddsSpec)

/-- 'beaconlaw01.MetricLimits', WHERE WHAT IT READS IS OF BULK AT MOST 1048576: true; the input reads as it did. -/
def metricLimitsUptoRow : OpenClaim := { program := "ytcpbanekjncekaa", sum := "80fe72673e7c13c27d70bd948e52dcb4959887f2849d96ad535182d097c3e5cf", func := "beacon/beaconlaw01.MetricLimits", spec := "metricLimits", inPlace := ["math.Float64bits", "math.Float64frombits", "math.archTrunc"], apart := false, narrowed := true }
def MetricLimitsUptoSaid : Prop := metricLimitsUptoRow.holds Try.pinned (OpenSpec.upto metricLimitsSpec)

/-- 'beaconlaw01.MetricDists', WHERE WHAT IT READS IS OF BULK AT MOST 1048576: true; the input reads as it did. -/
def metricDistsUptoRow : OpenClaim := { program := "ytcpbanekjncekaa", sum := "80fe72673e7c13c27d70bd948e52dcb4959887f2849d96ad535182d097c3e5cf", func := "beacon/beaconlaw01.MetricDists", spec := "metricDists", inPlace := ["math.Float64bits", "math.Float64frombits", "math.archTrunc"], apart := false, narrowed := true }
def MetricDistsUptoSaid : Prop := metricDistsUptoRow.holds Try.pinned (OpenSpec.upto metricDistsSpec)

/-- 'beaconlaw01.MetricCompares', WHERE WHAT IT READS IS OF BULK AT MOST 1048576: true; the input reads as it did. -/
def metricComparesUptoRow : OpenClaim := { program := "ytcpbanekjncekaa", sum := "80fe72673e7c13c27d70bd948e52dcb4959887f2849d96ad535182d097c3e5cf", func := "beacon/beaconlaw01.MetricCompares", spec := "metricCompares", inPlace := ["math.Float64bits", "math.Float64frombits", "math.archTrunc"], apart := false, narrowed := true }
def MetricComparesUptoSaid : Prop := metricComparesUptoRow.holds Try.pinned (OpenSpec.upto metricComparesSpec)

/-- 'beaconlaw01.MetricOrders', WHERE WHAT IT READS IS OF BULK AT MOST 1048576: true; the input reads as it did. -/
def metricOrdersUptoRow : OpenClaim := { program := "ytcpbanekjncekaa", sum := "80fe72673e7c13c27d70bd948e52dcb4959887f2849d96ad535182d097c3e5cf", func := "beacon/beaconlaw01.MetricOrders", spec := "metricOrders", inPlace := ["math.Float64bits", "math.Float64frombits", "math.archTrunc"], apart := false, narrowed := true }
def MetricOrdersUptoSaid : Prop := metricOrdersUptoRow.holds Try.pinned (OpenSpec.upto metricOrdersSpec)

/-- 'beaconlaw01.MetricLeast', WHERE WHAT IT READS IS OF BULK AT MOST 1048576: true; the input reads as it did. -/
def metricLeastUptoRow : OpenClaim := { program := "ytcpbanekjncekaa", sum := "80fe72673e7c13c27d70bd948e52dcb4959887f2849d96ad535182d097c3e5cf", func := "beacon/beaconlaw01.MetricLeast", spec := "metricLeast", inPlace := ["math.Float64bits", "math.Float64frombits", "math.archTrunc"], apart := false, narrowed := true }
def MetricLeastUptoSaid : Prop := metricLeastUptoRow.holds Try.pinned (OpenSpec.upto metricLeastSpec)

/-- 'beaconlaw01.MetricSums', WHERE WHAT IT READS IS OF BULK AT MOST 1048576: true; the input reads as it did. -/
def metricSumsUptoRow : OpenClaim := { program := "ytcpbanekjncekaa", sum := "80fe72673e7c13c27d70bd948e52dcb4959887f2849d96ad535182d097c3e5cf", func := "beacon/beaconlaw01.MetricSums", spec := "metricSums", inPlace := ["math.Float64frombits", "math.Float64bits", "math.archTrunc"], apart := false, narrowed := true }
def MetricSumsUptoSaid : Prop := metricSumsUptoRow.holds Try.pinned (OpenSpec.upto metricSumsSpec)

/-- 'beaconlaw01.MetricRounds', WHERE WHAT IT READS IS OF BULK AT MOST 1048576: true; the input reads as it did. -/
def metricRoundsUptoRow : OpenClaim := { program := "ytcpbanekjncekaa", sum := "80fe72673e7c13c27d70bd948e52dcb4959887f2849d96ad535182d097c3e5cf", func := "beacon/beaconlaw01.MetricRounds", spec := "metricRounds", inPlace := ["math.RoundToEven", "math.archFloor", "math.Float64bits", "math.Float64frombits", "math.archTrunc"], apart := false, narrowed := true }
def MetricRoundsUptoSaid : Prop := metricRoundsUptoRow.holds Try.pinned (OpenSpec.upto metricRoundsSpec)

end Rows
end Go.Proofs.Ytcpbanekjncekaa
