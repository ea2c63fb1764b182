/-
  DERIVED. GIVEN WITH THE SEED: THE CARDS: each row of YtjhalgoondljgaaDoorRows.lean that lists a variable, with what it lists TIED to the program's text (the seventh form; the later family's looks); each row that meets fmt, with fmt's text TOLD by the authors' own Lean function (tested against real Go, not proved from fmt's source: count such statements apart). THE CARD IS WHAT COUNTS. Prove the row's statement (the work); the ties are given (YtjhalgoondljgaaDoorTie.lean); close each card by the builder's one call (the guide's Derived/Test/ToyasCard.lean, 'card_holds'). Laid BY PROGRAM, IN A SANDBOX (cutbox-door.mjs). By AI agents, Wed Nov 11 2026. No macro, syntax, notation, axiom, sorry.
-/
import Derived.Test.YtjhalgoondljgaaDoorRows
import GoSem.ClaimSeven
namespace Go.Proofs.YtjhalgoondljgaaDoor
namespace Rows

/-- THE TIED CARD OF 'ploverlaw12.ChartTexts'. -/
def chartTextsCard : Claim7 := { stood := { row := chartTextsRow, standIns := [], harness := (true, "b942ba69716f95e560f2b11b41de25639344e936039a7033264f3566fa621d28"), looks := true }, kinds := [], alts := [], laidByText := true, laidKinds := [.data, .data, .data], laidTests := true, laidLooks := .later }
def ChartTextsCardSaid : Prop := Claim7.holds Tryd.pinned (.plain (OpenSpec.ofChange chartTextsSpec)) chartTextsCard

/-- THE SECOND FORM's CARD OF 'ploverlaw12.ChartTexts'. -/
def chartTextsUptoCard : Claim7 := { stood := { row := chartTextsUptoRow, standIns := [], harness := (true, "b942ba69716f95e560f2b11b41de25639344e936039a7033264f3566fa621d28"), looks := true }, kinds := [], alts := [], laidByText := true, laidKinds := [.data, .data, .data], laidTests := true, laidLooks := .later }
def ChartTextsUptoCardSaid : Prop := Claim7.holds Tryd.pinned (.plain (OpenSpec.upto chartTextsSpec)) chartTextsUptoCard
end Rows
end Go.Proofs.YtjhalgoondljgaaDoor
