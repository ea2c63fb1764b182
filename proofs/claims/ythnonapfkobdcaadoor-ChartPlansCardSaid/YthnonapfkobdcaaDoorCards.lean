/-
  DERIVED. GIVEN WITH THE SEED: THE CARDS: each row of YthnonapfkobdcaaDoorRows.lean that lists a variable, with what it lists TIED to the program's text (the seventh form; the later family's looks); each row that meets fmt, with fmt's text TOLD by the authors' own Lean function (tested against real Go, not proved from fmt's source: count such statements apart). THE CARD IS WHAT COUNTS. Prove the row's statement (the work); the ties are given (YthnonapfkobdcaaDoorTie.lean); close each card by the builder's one call (the guide's Derived/Test/ToyasCard.lean, 'card_holds'). Laid BY PROGRAM, IN A SANDBOX (cutbox-door.mjs). By AI agents, Wed Nov 11 2026. No macro, syntax, notation, axiom, sorry.
-/
import Derived.Test.YthnonapfkobdcaaDoorRows
import GoSem.ClaimSeven
namespace Go.Proofs.YthnonapfkobdcaaDoor
namespace Rows

/-- THE TIED CARD OF 'ploverlaw12.ChartTexts'. -/
def chartTextsCard : Claim7 := { stood := { row := chartTextsRow, standIns := [], harness := (true, "3e0ed8fc130f2a86f8afcfe4ffff3bf137608d3a26412619b783ba9c95024417"), looks := true }, kinds := [], alts := [], laidByText := true, laidKinds := [.data, .data, .data], laidTests := true, laidLooks := .later }
def ChartTextsCardSaid : Prop := Claim7.holds Tryd.pinned (.plain (OpenSpec.ofChange chartTextsSpec)) chartTextsCard

/-- THE TIED CARD OF 'ploverlaw11.RingComes'. -/
def ringComesCard : Claim7 := { stood := { row := ringComesRow, standIns := [], harness := (true, "3e0ed8fc130f2a86f8afcfe4ffff3bf137608d3a26412619b783ba9c95024417"), looks := true }, kinds := [], alts := [], laidByText := true, laidKinds := [.data, .data, .data], laidTests := true, laidLooks := .later }
def RingComesCardSaid : Prop := Claim7.holds Tryd.pinned (.plain (OpenSpec.ofChange ringComesSpec)) ringComesCard

/-- THE TIED CARD OF 'ploverlaw11.RingSpots'. -/
def ringSpotsCard : Claim7 := { stood := { row := ringSpotsRow, standIns := [], harness := (true, "3e0ed8fc130f2a86f8afcfe4ffff3bf137608d3a26412619b783ba9c95024417"), looks := true }, kinds := [], alts := [], laidByText := true, laidKinds := [.data, .data, .data], laidTests := true, laidLooks := .later }
def RingSpotsCardSaid : Prop := Claim7.holds Tryd.pinned (.plain (OpenSpec.ofChange ringSpotsSpec)) ringSpotsCard

/-- THE TIED CARD OF 'ploverlaw11.RingParts'. -/
def ringPartsCard : Claim7 := { stood := { row := ringPartsRow, standIns := [], harness := (true, "3e0ed8fc130f2a86f8afcfe4ffff3bf137608d3a26412619b783ba9c95024417"), looks := true }, kinds := [], alts := [], laidByText := true, laidKinds := [.data, .data, .data], laidTests := true, laidLooks := .later }
def RingPartsCardSaid : Prop := Claim7.holds Tryd.pinned (.plain (OpenSpec.ofChange ringPartsSpec)) ringPartsCard

/-- THE TIED CARD OF 'ploverlaw12.ChartPlans'. -/
def chartPlansCard : Claim7 := { stood := { row := chartPlansRow, standIns := [], harness := (true, "3e0ed8fc130f2a86f8afcfe4ffff3bf137608d3a26412619b783ba9c95024417"), looks := true }, kinds := [], alts := [], laidByText := true, laidKinds := [.data, .data, .data], laidTests := true, laidLooks := .later }
def ChartPlansCardSaid : Prop := Claim7.holds Tryd.pinned (.plain (OpenSpec.ofChange chartPlansSpec)) chartPlansCard

/-- THE TIED CARD OF 'ploverlaw12.ChartRests'. -/
def chartRestsCard : Claim7 := { stood := { row := chartRestsRow, standIns := [], harness := (true, "3e0ed8fc130f2a86f8afcfe4ffff3bf137608d3a26412619b783ba9c95024417"), looks := true }, kinds := [], alts := [], laidByText := true, laidKinds := [.data, .data, .data], laidTests := true, laidLooks := .later }
def ChartRestsCardSaid : Prop := Claim7.holds Tryd.pinned (.plain (OpenSpec.ofChange chartRestsSpec)) chartRestsCard

/-- THE TIED CARD OF 'ploverlaw11.RingNobody'. -/
def ringNobodyCard : Claim7 := { stood := { row := ringNobodyRow, standIns := [], harness := (true, "3e0ed8fc130f2a86f8afcfe4ffff3bf137608d3a26412619b783ba9c95024417"), looks := true }, kinds := [], alts := [], laidByText := true, laidKinds := [.data, .data, .data], laidTests := true, laidLooks := .later }
def RingNobodyCardSaid : Prop := Claim7.holds Tryd.pinned (.plain (OpenSpec.ofChange ringNobodySpec)) ringNobodyCard

/-- THE SECOND FORM's CARD OF 'ploverlaw12.ChartTexts'. -/
def chartTextsUptoCard : Claim7 := { stood := { row := chartTextsUptoRow, standIns := [], harness := (true, "3e0ed8fc130f2a86f8afcfe4ffff3bf137608d3a26412619b783ba9c95024417"), looks := true }, kinds := [], alts := [], laidByText := true, laidKinds := [.data, .data, .data], laidTests := true, laidLooks := .later }
def ChartTextsUptoCardSaid : Prop := Claim7.holds Tryd.pinned (.plain (OpenSpec.upto chartTextsSpec)) chartTextsUptoCard

/-- THE SECOND FORM's CARD OF 'ploverlaw11.RingComes'. -/
def ringComesUptoCard : Claim7 := { stood := { row := ringComesUptoRow, standIns := [], harness := (true, "3e0ed8fc130f2a86f8afcfe4ffff3bf137608d3a26412619b783ba9c95024417"), looks := true }, kinds := [], alts := [], laidByText := true, laidKinds := [.data, .data, .data], laidTests := true, laidLooks := .later }
def RingComesUptoCardSaid : Prop := Claim7.holds Tryd.pinned (.plain (OpenSpec.upto ringComesSpec)) ringComesUptoCard

/-- THE SECOND FORM's CARD OF 'ploverlaw11.RingSpots'. -/
def ringSpotsUptoCard : Claim7 := { stood := { row := ringSpotsUptoRow, standIns := [], harness := (true, "3e0ed8fc130f2a86f8afcfe4ffff3bf137608d3a26412619b783ba9c95024417"), looks := true }, kinds := [], alts := [], laidByText := true, laidKinds := [.data, .data, .data], laidTests := true, laidLooks := .later }
def RingSpotsUptoCardSaid : Prop := Claim7.holds Tryd.pinned (.plain (OpenSpec.upto ringSpotsSpec)) ringSpotsUptoCard

/-- THE SECOND FORM's CARD OF 'ploverlaw11.RingParts'. -/
def ringPartsUptoCard : Claim7 := { stood := { row := ringPartsUptoRow, standIns := [], harness := (true, "3e0ed8fc130f2a86f8afcfe4ffff3bf137608d3a26412619b783ba9c95024417"), looks := true }, kinds := [], alts := [], laidByText := true, laidKinds := [.data, .data, .data], laidTests := true, laidLooks := .later }
def RingPartsUptoCardSaid : Prop := Claim7.holds Tryd.pinned (.plain (OpenSpec.upto ringPartsSpec)) ringPartsUptoCard

/-- THE SECOND FORM's CARD OF 'ploverlaw12.ChartPlans'. -/
def chartPlansUptoCard : Claim7 := { stood := { row := chartPlansUptoRow, standIns := [], harness := (true, "3e0ed8fc130f2a86f8afcfe4ffff3bf137608d3a26412619b783ba9c95024417"), looks := true }, kinds := [], alts := [], laidByText := true, laidKinds := [.data, .data, .data], laidTests := true, laidLooks := .later }
def ChartPlansUptoCardSaid : Prop := Claim7.holds Tryd.pinned (.plain (OpenSpec.upto chartPlansSpec)) chartPlansUptoCard

/-- THE SECOND FORM's CARD OF 'ploverlaw12.ChartRests'. -/
def chartRestsUptoCard : Claim7 := { stood := { row := chartRestsUptoRow, standIns := [], harness := (true, "3e0ed8fc130f2a86f8afcfe4ffff3bf137608d3a26412619b783ba9c95024417"), looks := true }, kinds := [], alts := [], laidByText := true, laidKinds := [.data, .data, .data], laidTests := true, laidLooks := .later }
def ChartRestsUptoCardSaid : Prop := Claim7.holds Tryd.pinned (.plain (OpenSpec.upto chartRestsSpec)) chartRestsUptoCard

/-- THE SECOND FORM's CARD OF 'ploverlaw11.RingNobody'. -/
def ringNobodyUptoCard : Claim7 := { stood := { row := ringNobodyUptoRow, standIns := [], harness := (true, "3e0ed8fc130f2a86f8afcfe4ffff3bf137608d3a26412619b783ba9c95024417"), looks := true }, kinds := [], alts := [], laidByText := true, laidKinds := [.data, .data, .data], laidTests := true, laidLooks := .later }
def RingNobodyUptoCardSaid : Prop := Claim7.holds Tryd.pinned (.plain (OpenSpec.upto ringNobodySpec)) ringNobodyUptoCard
end Rows
end Go.Proofs.YthnonapfkobdcaaDoor
