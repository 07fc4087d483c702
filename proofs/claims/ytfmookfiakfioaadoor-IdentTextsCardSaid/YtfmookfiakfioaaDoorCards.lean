/-
  DERIVED. GIVEN WITH THE SEED: THE CARDS: each row of YtfmookfiakfioaaDoorRows.lean that lists a variable, with what it lists TIED to the program's text (the seventh form; the later family's looks); each row that meets fmt, with fmt's text TOLD by the authors' own Lean function (tested against real Go, not proved from fmt's source: count such statements apart). THE CARD IS WHAT COUNTS. Prove the row's statement (the work); the ties are given (YtfmookfiakfioaaDoorTie.lean); close each card by the builder's one call (the guide's Derived/Test/ToyasCard.lean, 'card_holds'). Laid BY PROGRAM, IN A SANDBOX (cutbox-door.mjs). By AI agents, Wed Nov 11 2026. No macro, syntax, notation, axiom, sorry.
-/
import Derived.Test.YtfmookfiakfioaaDoorRows
import GoSem.ClaimSeven
namespace Go.Proofs.YtfmookfiakfioaaDoor
namespace Rows

/-- THE TIED CARD OF 'beaconlaw02.IdentChecks'. -/
def identChecksCard : Claim7 := { stood := { row := identChecksRow, standIns := [], harness := (true, "82dab3e251abd660760091e9bce5d1400f6e7ded1da657d86bc530a9bf344bd3"), looks := true }, kinds := [], alts := [], laidByText := true, laidKinds := [.data, .data, .data], laidTests := true, laidLooks := .later }
def IdentChecksCardSaid : Prop := Claim7.holds Tryd.pinned (.plain (OpenSpec.ofChange identChecksSpec)) identChecksCard

/-- THE TIED CARD OF 'beaconlaw02.IdentDraws'. -/
def identDrawsCard : Claim7 := { stood := { row := identDrawsRow, standIns := [], harness := (true, "82dab3e251abd660760091e9bce5d1400f6e7ded1da657d86bc530a9bf344bd3"), looks := true }, kinds := [], alts := [], laidByText := true, laidKinds := [.data, .data, .data], laidTests := true, laidLooks := .later }
def IdentDrawsCardSaid : Prop := Claim7.holds Tryd.pinned (.plain (OpenSpec.ofChange identDrawsSpec)) identDrawsCard

/-- THE TIED CARD OF 'beaconlaw02.IdentFew'. -/
def identFewCard : Claim7 := { stood := { row := identFewRow, standIns := [], harness := (true, "82dab3e251abd660760091e9bce5d1400f6e7ded1da657d86bc530a9bf344bd3"), looks := true }, kinds := [], alts := [], laidByText := true, laidKinds := [.data, .data, .data], laidTests := true, laidLooks := .later }
def IdentFewCardSaid : Prop := Claim7.holds Tryd.pinned (.plain (OpenSpec.ofChange identFewSpec)) identFewCard

/-- THE TIED CARD OF 'beaconlaw02.IdentTurns'. -/
def identTurnsCard : Claim7 := { stood := { row := identTurnsRow, standIns := [], harness := (true, "82dab3e251abd660760091e9bce5d1400f6e7ded1da657d86bc530a9bf344bd3"), looks := true }, kinds := [], alts := [], laidByText := true, laidKinds := [.data, .data, .data], laidTests := true, laidLooks := .later }
def IdentTurnsCardSaid : Prop := Claim7.holds Tryd.pinned (.plain (OpenSpec.ofChange identTurnsSpec)) identTurnsCard

/-- THE TIED CARD OF 'beaconlaw02.IdentSums'. -/
def identSumsCard : Claim7 := { stood := { row := identSumsRow, standIns := [], harness := (true, "82dab3e251abd660760091e9bce5d1400f6e7ded1da657d86bc530a9bf344bd3"), looks := true }, kinds := [], alts := [], laidByText := true, laidKinds := [.data, .data, .data], laidTests := true, laidLooks := .later }
def IdentSumsCardSaid : Prop := Claim7.holds Tryd.pinned (.plain (OpenSpec.ofChange identSumsSpec)) identSumsCard

/-- THE TIED CARD OF 'beaconlaw02.IdentTexts'. -/
def identTextsCard : Claim7 := { stood := { row := identTextsRow, standIns := [], harness := (true, "82dab3e251abd660760091e9bce5d1400f6e7ded1da657d86bc530a9bf344bd3"), looks := true }, kinds := [], alts := [], laidByText := true, laidKinds := [.data, .data, .data, .sentinel, .sentinel], laidTests := true, laidLooks := .later }
def IdentTextsCardSaid : Prop := Claim7.holds Tryd.pinned (.plain (OpenSpec.ofChange identTextsSpec)) identTextsCard

/-- THE TIED CARD OF 'beaconlaw02.IdentBack'. -/
def identBackCard : Claim7 := { stood := { row := identBackRow, standIns := [], harness := (true, "82dab3e251abd660760091e9bce5d1400f6e7ded1da657d86bc530a9bf344bd3"), looks := true }, kinds := [], alts := [], laidByText := true, laidKinds := [.data, .data, .data, .sentinel, .sentinel], laidTests := true, laidLooks := .later }
def IdentBackCardSaid : Prop := Claim7.holds Tryd.pinned (.plain (OpenSpec.ofChange identBackSpec)) identBackCard

/-- THE SECOND FORM's CARD OF 'beaconlaw02.IdentChecks'. -/
def identChecksUptoCard : Claim7 := { stood := { row := identChecksUptoRow, standIns := [], harness := (true, "82dab3e251abd660760091e9bce5d1400f6e7ded1da657d86bc530a9bf344bd3"), looks := true }, kinds := [], alts := [], laidByText := true, laidKinds := [.data, .data, .data], laidTests := true, laidLooks := .later }
def IdentChecksUptoCardSaid : Prop := Claim7.holds Tryd.pinned (.plain (OpenSpec.upto identChecksSpec)) identChecksUptoCard

/-- THE SECOND FORM's CARD OF 'beaconlaw02.IdentDraws'. -/
def identDrawsUptoCard : Claim7 := { stood := { row := identDrawsUptoRow, standIns := [], harness := (true, "82dab3e251abd660760091e9bce5d1400f6e7ded1da657d86bc530a9bf344bd3"), looks := true }, kinds := [], alts := [], laidByText := true, laidKinds := [.data, .data, .data], laidTests := true, laidLooks := .later }
def IdentDrawsUptoCardSaid : Prop := Claim7.holds Tryd.pinned (.plain (OpenSpec.upto identDrawsSpec)) identDrawsUptoCard

/-- THE SECOND FORM's CARD OF 'beaconlaw02.IdentFew'. -/
def identFewUptoCard : Claim7 := { stood := { row := identFewUptoRow, standIns := [], harness := (true, "82dab3e251abd660760091e9bce5d1400f6e7ded1da657d86bc530a9bf344bd3"), looks := true }, kinds := [], alts := [], laidByText := true, laidKinds := [.data, .data, .data], laidTests := true, laidLooks := .later }
def IdentFewUptoCardSaid : Prop := Claim7.holds Tryd.pinned (.plain (OpenSpec.upto identFewSpec)) identFewUptoCard

/-- THE SECOND FORM's CARD OF 'beaconlaw02.IdentTurns'. -/
def identTurnsUptoCard : Claim7 := { stood := { row := identTurnsUptoRow, standIns := [], harness := (true, "82dab3e251abd660760091e9bce5d1400f6e7ded1da657d86bc530a9bf344bd3"), looks := true }, kinds := [], alts := [], laidByText := true, laidKinds := [.data, .data, .data], laidTests := true, laidLooks := .later }
def IdentTurnsUptoCardSaid : Prop := Claim7.holds Tryd.pinned (.plain (OpenSpec.upto identTurnsSpec)) identTurnsUptoCard

/-- THE SECOND FORM's CARD OF 'beaconlaw02.IdentSums'. -/
def identSumsUptoCard : Claim7 := { stood := { row := identSumsUptoRow, standIns := [], harness := (true, "82dab3e251abd660760091e9bce5d1400f6e7ded1da657d86bc530a9bf344bd3"), looks := true }, kinds := [], alts := [], laidByText := true, laidKinds := [.data, .data, .data], laidTests := true, laidLooks := .later }
def IdentSumsUptoCardSaid : Prop := Claim7.holds Tryd.pinned (.plain (OpenSpec.upto identSumsSpec)) identSumsUptoCard

/-- THE SECOND FORM's CARD OF 'beaconlaw02.IdentTexts'. -/
def identTextsUptoCard : Claim7 := { stood := { row := identTextsUptoRow, standIns := [], harness := (true, "82dab3e251abd660760091e9bce5d1400f6e7ded1da657d86bc530a9bf344bd3"), looks := true }, kinds := [], alts := [], laidByText := true, laidKinds := [.data, .data, .data, .sentinel, .sentinel], laidTests := true, laidLooks := .later }
def IdentTextsUptoCardSaid : Prop := Claim7.holds Tryd.pinned (.plain (OpenSpec.upto identTextsSpec)) identTextsUptoCard

/-- THE SECOND FORM's CARD OF 'beaconlaw02.IdentBack'. -/
def identBackUptoCard : Claim7 := { stood := { row := identBackUptoRow, standIns := [], harness := (true, "82dab3e251abd660760091e9bce5d1400f6e7ded1da657d86bc530a9bf344bd3"), looks := true }, kinds := [], alts := [], laidByText := true, laidKinds := [.data, .data, .data, .sentinel, .sentinel], laidTests := true, laidLooks := .later }
def IdentBackUptoCardSaid : Prop := Claim7.holds Tryd.pinned (.plain (OpenSpec.upto identBackSpec)) identBackUptoCard
end Rows
end Go.Proofs.YtfmookfiakfioaaDoor
