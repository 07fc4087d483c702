/-
  DERIVED. GIVEN WITH THE SEED: THE CARDS: each row of YtjcgachdnkdamaaDoorRows.lean that lists a variable, with what it lists TIED to the program's text (the seventh form; the later family's looks); each row that meets fmt, with fmt's text TOLD by the authors' own Lean function (tested against real Go, not proved from fmt's source: count such statements apart). THE CARD IS WHAT COUNTS. Prove the row's statement (the work); the ties are given (YtjcgachdnkdamaaDoorTie.lean); close each card by the builder's one call (the guide's Derived/Test/ToyasCard.lean, 'card_holds'). Laid BY PROGRAM, IN A SANDBOX (cutbox-door.mjs). By AI agents, Wed Nov 11 2026. No macro, syntax, notation, axiom, sorry.
-/
import Derived.Test.YtjcgachdnkdamaaDoorRows
import GoSem.ClaimSeven
namespace Go.Proofs.YtjcgachdnkdamaaDoor
namespace Rows

/-- THE TIED CARD OF 'beaconlaw28.StatsExact'. -/
def statsExactCard : Claim7 := { stood := { row := statsExactRow, standIns := [], harness := (true, "c3dfca05cf1f3ecc5bc36998ba712590853c405c08d18fcf36f94be62e676114"), looks := false }, kinds := [], alts := [], laidByText := true, laidKinds := [.data, .data, .data], laidTests := true, laidLooks := .later }
def StatsExactCardSaid : Prop := Claim7.holds Tryd.pinned (.plain (OpenSpec.ofChange statsExactSpec)) statsExactCard

/-- THE TIED CARD OF 'beaconlaw28.StatsTexts'. -/
def statsTextsCard : Claim7 := { stood := { row := statsTextsRow, standIns := [], harness := (true, "c3dfca05cf1f3ecc5bc36998ba712590853c405c08d18fcf36f94be62e676114"), looks := false }, kinds := [], alts := [], laidByText := true, laidKinds := [.data, .data, .data], laidTests := true, laidLooks := .later }
def StatsTextsCardSaid : Prop := Claim7.holds Tryd.pinned (.plain (OpenSpec.ofChange statsTextsSpec)) statsTextsCard

/-- THE TIED CARD OF 'beaconlaw28.StatsHistograms'. -/
def statsHistogramsCard : Claim7 := { stood := { row := statsHistogramsRow, standIns := [], harness := (true, "c3dfca05cf1f3ecc5bc36998ba712590853c405c08d18fcf36f94be62e676114"), looks := false }, kinds := [], alts := [], laidByText := true, laidKinds := [.data, .data, .data], laidTests := true, laidLooks := .later }
def StatsHistogramsCardSaid : Prop := Claim7.holds Tryd.pinned (.plain (OpenSpec.ofChange statsHistogramsSpec)) statsHistogramsCard

/-- THE TIED CARD OF 'beaconlaw28.StatsSums'. -/
def statsSumsCard : Claim7 := { stood := { row := statsSumsRow, standIns := [], harness := (true, "c3dfca05cf1f3ecc5bc36998ba712590853c405c08d18fcf36f94be62e676114"), looks := false }, kinds := [], alts := [], laidByText := true, laidKinds := [.data, .data, .data], laidTests := true, laidLooks := .later }
def StatsSumsCardSaid : Prop := Claim7.holds Tryd.pinned (.plain (OpenSpec.ofChange statsSumsSpec)) statsSumsCard

/-- THE TIED CARD OF 'beaconlaw28.StatsQuantiles'. -/
def statsQuantilesCard : Claim7 := { stood := { row := statsQuantilesRow, standIns := [], harness := (true, "c3dfca05cf1f3ecc5bc36998ba712590853c405c08d18fcf36f94be62e676114"), looks := false }, kinds := [], alts := [], laidByText := true, laidKinds := [.data, .data, .data], laidTests := true, laidLooks := .later }
def StatsQuantilesCardSaid : Prop := Claim7.holds Tryd.pinned (.plain (OpenSpec.ofChange statsQuantilesSpec)) statsQuantilesCard

/-- THE TIED CARD OF 'beaconlaw28.StatsRises'. -/
def statsRisesCard : Claim7 := { stood := { row := statsRisesRow, standIns := [], harness := (true, "c3dfca05cf1f3ecc5bc36998ba712590853c405c08d18fcf36f94be62e676114"), looks := false }, kinds := [], alts := [], laidByText := true, laidKinds := [.data, .data, .data], laidTests := true, laidLooks := .later }
def StatsRisesCardSaid : Prop := Claim7.holds Tryd.pinned (.plain (OpenSpec.ofChange statsRisesSpec)) statsRisesCard

/-- THE TIED CARD OF 'beaconlaw28.StatsOf'. -/
def statsOfCard : Claim7 := { stood := { row := statsOfRow, standIns := [], harness := (true, "c3dfca05cf1f3ecc5bc36998ba712590853c405c08d18fcf36f94be62e676114"), looks := false }, kinds := [], alts := [], laidByText := true, laidKinds := [.data, .data, .data], laidTests := true, laidLooks := .later }
def StatsOfCardSaid : Prop := Claim7.holds Tryd.pinned (.plain (OpenSpec.ofChange statsOfSpec)) statsOfCard

/-- THE SECOND FORM's CARD OF 'beaconlaw28.StatsExact'. -/
def statsExactUptoCard : Claim7 := { stood := { row := statsExactUptoRow, standIns := [], harness := (true, "c3dfca05cf1f3ecc5bc36998ba712590853c405c08d18fcf36f94be62e676114"), looks := false }, kinds := [], alts := [], laidByText := true, laidKinds := [.data, .data, .data], laidTests := true, laidLooks := .later }
def StatsExactUptoCardSaid : Prop := Claim7.holds Tryd.pinned (.plain (OpenSpec.upto statsExactSpec)) statsExactUptoCard

/-- THE SECOND FORM's CARD OF 'beaconlaw28.StatsTexts'. -/
def statsTextsUptoCard : Claim7 := { stood := { row := statsTextsUptoRow, standIns := [], harness := (true, "c3dfca05cf1f3ecc5bc36998ba712590853c405c08d18fcf36f94be62e676114"), looks := false }, kinds := [], alts := [], laidByText := true, laidKinds := [.data, .data, .data], laidTests := true, laidLooks := .later }
def StatsTextsUptoCardSaid : Prop := Claim7.holds Tryd.pinned (.plain (OpenSpec.upto statsTextsSpec)) statsTextsUptoCard

/-- THE SECOND FORM's CARD OF 'beaconlaw28.StatsHistograms'. -/
def statsHistogramsUptoCard : Claim7 := { stood := { row := statsHistogramsUptoRow, standIns := [], harness := (true, "c3dfca05cf1f3ecc5bc36998ba712590853c405c08d18fcf36f94be62e676114"), looks := false }, kinds := [], alts := [], laidByText := true, laidKinds := [.data, .data, .data], laidTests := true, laidLooks := .later }
def StatsHistogramsUptoCardSaid : Prop := Claim7.holds Tryd.pinned (.plain (OpenSpec.upto statsHistogramsSpec)) statsHistogramsUptoCard

/-- THE SECOND FORM's CARD OF 'beaconlaw28.StatsSums'. -/
def statsSumsUptoCard : Claim7 := { stood := { row := statsSumsUptoRow, standIns := [], harness := (true, "c3dfca05cf1f3ecc5bc36998ba712590853c405c08d18fcf36f94be62e676114"), looks := false }, kinds := [], alts := [], laidByText := true, laidKinds := [.data, .data, .data], laidTests := true, laidLooks := .later }
def StatsSumsUptoCardSaid : Prop := Claim7.holds Tryd.pinned (.plain (OpenSpec.upto statsSumsSpec)) statsSumsUptoCard

/-- THE SECOND FORM's CARD OF 'beaconlaw28.StatsQuantiles'. -/
def statsQuantilesUptoCard : Claim7 := { stood := { row := statsQuantilesUptoRow, standIns := [], harness := (true, "c3dfca05cf1f3ecc5bc36998ba712590853c405c08d18fcf36f94be62e676114"), looks := false }, kinds := [], alts := [], laidByText := true, laidKinds := [.data, .data, .data], laidTests := true, laidLooks := .later }
def StatsQuantilesUptoCardSaid : Prop := Claim7.holds Tryd.pinned (.plain (OpenSpec.upto statsQuantilesSpec)) statsQuantilesUptoCard

/-- THE SECOND FORM's CARD OF 'beaconlaw28.StatsRises'. -/
def statsRisesUptoCard : Claim7 := { stood := { row := statsRisesUptoRow, standIns := [], harness := (true, "c3dfca05cf1f3ecc5bc36998ba712590853c405c08d18fcf36f94be62e676114"), looks := false }, kinds := [], alts := [], laidByText := true, laidKinds := [.data, .data, .data], laidTests := true, laidLooks := .later }
def StatsRisesUptoCardSaid : Prop := Claim7.holds Tryd.pinned (.plain (OpenSpec.upto statsRisesSpec)) statsRisesUptoCard

/-- THE SECOND FORM's CARD OF 'beaconlaw28.StatsOf'. -/
def statsOfUptoCard : Claim7 := { stood := { row := statsOfUptoRow, standIns := [], harness := (true, "c3dfca05cf1f3ecc5bc36998ba712590853c405c08d18fcf36f94be62e676114"), looks := false }, kinds := [], alts := [], laidByText := true, laidKinds := [.data, .data, .data], laidTests := true, laidLooks := .later }
def StatsOfUptoCardSaid : Prop := Claim7.holds Tryd.pinned (.plain (OpenSpec.upto statsOfSpec)) statsOfUptoCard
end Rows
end Go.Proofs.YtjcgachdnkdamaaDoor
