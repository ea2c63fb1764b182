/-
  No cell of these rows narrows 'for every input' (looked for: loops, veiled, ifaces, maps, wideKeys, modest, calm, conditions, laid).
  DERIVED. THE GIVEN ROWS OF THIS SEAT. 3 by the template 'for every input the law returns true; each argument reads behind the call as it read before'; 0 by the template 'total and deterministic' (their statements: YtahoeehjgbfhbaaTotals.lean).
  GIVEN WITH THE SEED: the statements are not yours to turn. If you find one false, say at which input.
  Laid BY PROGRAM, IN A SANDBOX (cutbox-rows.mjs): the forced cells as the released guide's own fill.sh prints them over the translation 45ce292b865eb18d… (all of the seat's roots in one cut). By AI agents, Wed Nov 11 2026. No macro, syntax, notation, axiom, sorry.
-/
import Derived.Test.YtahoeehjgbfhbaaChecked
import GoSem.Claim
import GoSem.ClaimJoined
import GoSem.ClaimMapViews
import Derived.JoinedTies
import Derived.KernelRfl
namespace Go.Proofs.Ytahoeehjgbfhbaa
/- THE CELL 'sum', in the pinned program and in every row, IS THE sha256 OF THE DUMP (.gsa) THAT YtahoeehjgbfhbaaProg.lean LOADS. Nothing in Lean hashes anything: it is a label: what it is worth is what the hold of that sum in a sandbox is worth. -/
noncomputable def Try.pinned : Pinned := { name := "ytahoeehjgbfhbaa", sum := "45ce292b865eb18d4a977330fc7aef585b625fe53490b94bda85c43dad2c5ce1", checked := Try.checked }
namespace Rows
def none {H : Type} : Left H := { results := [], args := [] }

/-- 'ploverlaw12.ChartBack': WHATEVER THE INPUT: true; the input reads as it did. -/
def chartBackSpec : ChangeSpec := { name := "chartBack", fn := fun _ => fun
  | [d1, d2, d3] => { results := [.lit (.bool true)], args := [d1, d2, d3] }
  | _ => none }
def chartBackRow : OpenClaim := { program := "ytahoeehjgbfhbaa", sum := "45ce292b865eb18d4a977330fc7aef585b625fe53490b94bda85c43dad2c5ce1", func := "plover/ploverlaw12.ChartBack", spec := "chartBack", unfollowed := true, recurses := true, apart := false }
def ChartBackSaid : Prop := chartBackRow.holds Try.pinned (OpenSpec.ofChange chartBackSpec)

/-- ITS FALSE NEIGHBOUR: 'it returns false'. Refute it at one input. -/
def chartBackWrong : ChangeSpec := { name := "chartBack", fn := fun _ => fun
  | [d1, d2, d3] => { results := [.lit (.bool false)], args := [d1, d2, d3] }
  | _ => none }
def ChartBackWrongFalsely : Prop := chartBackRow.holds Try.pinned (OpenSpec.ofChange chartBackWrong)

/-- 'ploverlaw12.ChartMoves': WHATEVER THE INPUT: true; the input reads as it did. -/
def chartMovesSpec : ChangeSpec := { name := "chartMoves", fn := fun _ => fun
  | [d1, d2, d3] => { results := [.lit (.bool true)], args := [d1, d2, d3] }
  | _ => none }
def chartMovesRow : OpenClaim := { program := "ytahoeehjgbfhbaa", sum := "45ce292b865eb18d4a977330fc7aef585b625fe53490b94bda85c43dad2c5ce1", func := "plover/ploverlaw12.ChartMoves", spec := "chartMoves", unfollowed := true, recurses := true, apart := false }
def ChartMovesSaid : Prop := chartMovesRow.holds Try.pinned (OpenSpec.ofChange chartMovesSpec)

/-- ITS FALSE NEIGHBOUR: 'it returns false'. Refute it at one input. -/
def chartMovesWrong : ChangeSpec := { name := "chartMoves", fn := fun _ => fun
  | [d1, d2, d3] => { results := [.lit (.bool false)], args := [d1, d2, d3] }
  | _ => none }
def ChartMovesWrongFalsely : Prop := chartMovesRow.holds Try.pinned (OpenSpec.ofChange chartMovesWrong)

/-- 'ploverlaw12.ChartGets': WHATEVER THE INPUT: true; the input reads as it did. -/
def chartGetsSpec : ChangeSpec := { name := "chartGets", fn := fun _ => fun
  | [d1, d2] => { results := [.lit (.bool true)], args := [d1, d2] }
  | _ => none }
def chartGetsRow : OpenClaim := { program := "ytahoeehjgbfhbaa", sum := "45ce292b865eb18d4a977330fc7aef585b625fe53490b94bda85c43dad2c5ce1", func := "plover/ploverlaw12.ChartGets", spec := "chartGets", unfollowed := true, recurses := true, apart := false }
def ChartGetsSaid : Prop := chartGetsRow.holds Try.pinned (OpenSpec.ofChange chartGetsSpec)

/-- ITS FALSE NEIGHBOUR: 'it returns false'. Refute it at one input. -/
def chartGetsWrong : ChangeSpec := { name := "chartGets", fn := fun _ => fun
  | [d1, d2] => { results := [.lit (.bool false)], args := [d1, d2] }
  | _ => none }
def ChartGetsWrongFalsely : Prop := chartGetsRow.holds Try.pinned (OpenSpec.ofChange chartGetsWrong)

/- THE SECOND FORM. 'bulk': how many values and letters a reading holds, each counted each time it is reached (what is shared counts as often as it is met; a slice's spare places count too). A statement '..UptoSaid' is the law's where the arguments, and the package variables that the reading takes, are together of bulk at most 1048576: NARROWER than '..Said'. Prove '..Said' where nothing that the law and all that it calls make is longer than what came in: it says more and counts as full. Else prove '..UptoSaid'. A law counts once. -/
mutual
def uptoBulk {H : Type} : DataW H → Nat
  | .lit (.string bytes) => bytes.length + 1
  | .lit _ => 1
  | .nil => 1
  | .ptr d => uptoBulk d + 1
  | .slice elems spare => uptoBulkAll elems + uptoBulkAll spare + 1
  | .agg parts => uptoBulkAll parts + 1
  | .iface _ d => uptoBulk d + 1
  | .map entries => uptoBulkEntries entries + 1
  | .held _ => 1
def uptoBulkAll {H : Type} : List (DataW H) → Nat
  | [] => 0
  | d :: r => uptoBulk d + uptoBulkAll r
def uptoBulkEntries {H : Type} : List (Lit × DataW H) → Nat
  | [] => 0
  | x :: r => uptoBulkEntry x + uptoBulkEntries r
def uptoBulkEntry {H : Type} : Lit × DataW H → Nat
  | (.string bytes, d) => bytes.length + uptoBulk d + 1
  | (_, d) => uptoBulk d + 1
 end
def uptoSmall : (H : Type) → List (DataW H) → Bool := fun _ ds => decide (uptoBulkAll ds ≤ 1048576)
def OpenSpec.upto (s : _root_.Go.ChangeSpec) : _root_.Go.OpenSpec := { _root_.Go.OpenSpec.ofChange s with cond := some uptoSmall }

/-- 'ploverlaw12.ChartBack', WHERE WHAT IT READS IS OF BULK AT MOST 1048576: true; the input reads as it did. -/
def chartBackUptoRow : OpenClaim := { program := "ytahoeehjgbfhbaa", sum := "45ce292b865eb18d4a977330fc7aef585b625fe53490b94bda85c43dad2c5ce1", func := "plover/ploverlaw12.ChartBack", spec := "chartBack", unfollowed := true, recurses := true, apart := false, narrowed := true }
def ChartBackUptoSaid : Prop := chartBackUptoRow.holds Try.pinned (OpenSpec.upto chartBackSpec)

/-- 'ploverlaw12.ChartMoves', WHERE WHAT IT READS IS OF BULK AT MOST 1048576: true; the input reads as it did. -/
def chartMovesUptoRow : OpenClaim := { program := "ytahoeehjgbfhbaa", sum := "45ce292b865eb18d4a977330fc7aef585b625fe53490b94bda85c43dad2c5ce1", func := "plover/ploverlaw12.ChartMoves", spec := "chartMoves", unfollowed := true, recurses := true, apart := false, narrowed := true }
def ChartMovesUptoSaid : Prop := chartMovesUptoRow.holds Try.pinned (OpenSpec.upto chartMovesSpec)

/-- 'ploverlaw12.ChartGets', WHERE WHAT IT READS IS OF BULK AT MOST 1048576: true; the input reads as it did. -/
def chartGetsUptoRow : OpenClaim := { program := "ytahoeehjgbfhbaa", sum := "45ce292b865eb18d4a977330fc7aef585b625fe53490b94bda85c43dad2c5ce1", func := "plover/ploverlaw12.ChartGets", spec := "chartGets", unfollowed := true, recurses := true, apart := false, narrowed := true }
def ChartGetsUptoSaid : Prop := chartGetsUptoRow.holds Try.pinned (OpenSpec.upto chartGetsSpec)

end Rows
end Go.Proofs.Ytahoeehjgbfhbaa
