/-
  DERIVED. GIVEN WITH THE SEED: THE CARDS: each row of YtcpbanekjncekaaDoorRows.lean that lists a variable, with what it lists TIED to the program's text (the seventh form; the later family's looks); each row that meets fmt, with fmt's text TOLD by the authors' own Lean function (tested against real Go, not proved from fmt's source: count such statements apart). THE CARD IS WHAT COUNTS. Prove the row's statement (the work); the ties are given (YtcpbanekjncekaaDoorTie.lean); close each card by the builder's one call (the guide's Derived/Test/ToyasCard.lean, 'card_holds'). Laid BY PROGRAM, IN A SANDBOX (cutbox-door.mjs). By AI agents, Wed Nov 11 2026. No macro, syntax, notation, axiom, sorry.
-/
import Derived.Test.YtcpbanekjncekaaDoorRows
import GoSem.ClaimSeven
namespace Go.Proofs.YtcpbanekjncekaaDoor
namespace Rows

/-- THE TIED CARD OF 'beaconlaw01.MetricTexts'. -/
def metricTextsCard : Claim7 := { stood := { row := metricTextsRow, standIns := [], harness := (true, "63524e348ecd69f6d49e4c72b9ffc279ce3709976ed2959dd8b0d20a96d27737"), looks := true }, kinds := [], alts := [], laidByText := true, laidKinds := [.data, .data, .data], laidTests := true, laidLooks := .later }
def MetricTextsCardSaid : Prop := Claim7.holds Tryd.pinned (.plain (OpenSpec.ofChange metricTextsSpec)) metricTextsCard

/-- THE TIED CARD OF 'beaconlaw01.MetricBack'. -/
def metricBackCard : Claim7 := { stood := { row := metricBackRow, standIns := [], harness := (true, "63524e348ecd69f6d49e4c72b9ffc279ce3709976ed2959dd8b0d20a96d27737"), looks := true }, kinds := [], alts := [], laidByText := true, laidKinds := [.data, .data, .data, .sentinel, .sentinel], laidTests := true, laidLooks := .later }
def MetricBackCardSaid : Prop := Claim7.holds Tryd.pinned (.plain (OpenSpec.ofChange metricBackSpec)) metricBackCard

/-- THE TIED CARD OF 'beaconlaw01.MetricParses'. -/
def metricParsesCard : Claim7 := { stood := { row := metricParsesRow, standIns := [], harness := (true, "63524e348ecd69f6d49e4c72b9ffc279ce3709976ed2959dd8b0d20a96d27737"), looks := true }, kinds := [], alts := [], laidByText := true, laidKinds := [.data, .data, .data, .sentinel, .sentinel], laidTests := true, laidLooks := .later }
def MetricParsesCardSaid : Prop := Claim7.holds Tryd.pinned (.plain (OpenSpec.ofChange metricParsesSpec)) metricParsesCard

/-- THE SECOND FORM's CARD OF 'beaconlaw01.MetricTexts'. -/
def metricTextsUptoCard : Claim7 := { stood := { row := metricTextsUptoRow, standIns := [], harness := (true, "63524e348ecd69f6d49e4c72b9ffc279ce3709976ed2959dd8b0d20a96d27737"), looks := true }, kinds := [], alts := [], laidByText := true, laidKinds := [.data, .data, .data], laidTests := true, laidLooks := .later }
def MetricTextsUptoCardSaid : Prop := Claim7.holds Tryd.pinned (.plain (OpenSpec.upto metricTextsSpec)) metricTextsUptoCard

/-- THE SECOND FORM's CARD OF 'beaconlaw01.MetricBack'. -/
def metricBackUptoCard : Claim7 := { stood := { row := metricBackUptoRow, standIns := [], harness := (true, "63524e348ecd69f6d49e4c72b9ffc279ce3709976ed2959dd8b0d20a96d27737"), looks := true }, kinds := [], alts := [], laidByText := true, laidKinds := [.data, .data, .data, .sentinel, .sentinel], laidTests := true, laidLooks := .later }
def MetricBackUptoCardSaid : Prop := Claim7.holds Tryd.pinned (.plain (OpenSpec.upto metricBackSpec)) metricBackUptoCard

/-- THE SECOND FORM's CARD OF 'beaconlaw01.MetricParses'. -/
def metricParsesUptoCard : Claim7 := { stood := { row := metricParsesUptoRow, standIns := [], harness := (true, "63524e348ecd69f6d49e4c72b9ffc279ce3709976ed2959dd8b0d20a96d27737"), looks := true }, kinds := [], alts := [], laidByText := true, laidKinds := [.data, .data, .data, .sentinel, .sentinel], laidTests := true, laidLooks := .later }
def MetricParsesUptoCardSaid : Prop := Claim7.holds Tryd.pinned (.plain (OpenSpec.upto metricParsesSpec)) metricParsesUptoCard
end Rows
end Go.Proofs.YtcpbanekjncekaaDoor
