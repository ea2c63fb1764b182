/-
  No cell of these rows narrows 'for every input' (looked for: loops, veiled, ifaces, maps, wideKeys, modest, calm, conditions, laid).
  DERIVED. THE GIVEN ROWS OF THIS SEAT. 8 by the template 'for every input the law returns true; each argument reads behind the call as it read before'; 0 by the template 'total and deterministic' (their statements: YtealiaafdkhonaaTotals.lean).
  GIVEN WITH THE SEED: the statements are not yours to turn. If you find one false, say at which input.
  Laid BY PROGRAM, IN A SANDBOX (cutbox-rows.mjs): the forced cells as the released guide's own fill.sh prints them over the translation 47874a8d487164c7… (all of the seat's roots in one cut). By AI agents, Wed Nov 11 2026. No macro, syntax, notation, axiom, sorry.
-/
import Derived.Test.YtealiaafdkhonaaChecked
import GoSem.Claim
import GoSem.ClaimJoined
import GoSem.ClaimMapViews
import Derived.JoinedTies
import Derived.KernelRfl
namespace Go.Proofs.Ytealiaafdkhonaa
/- THE CELL 'sum', in the pinned program and in every row, IS THE sha256 OF THE DUMP (.gsa) THAT YtealiaafdkhonaaProg.lean LOADS. Nothing in Lean hashes anything: it is a label: what it is worth is what the hold of that sum in a sandbox is worth. -/
noncomputable def Try.pinned : Pinned := { name := "ytealiaafdkhonaa", sum := "47874a8d487164c7c1ca22d51c59fbad6e0ed6f6056bcc4589510f8fdd157c17", checked := Try.checked }
namespace Rows
def none {H : Type} : Left H := { results := [], args := [] }

/-- 'ploverlaw08.VptreeNear': WHATEVER THE INPUT: true; the input reads as it did. -/
def vptreeNearSpec : ChangeSpec := { name := "vptreeNear", fn := fun _ => fun
  | [d1, d2, d3] => { results := [.lit (.bool true)], args := [d1, d2, d3] }
  | _ => none }
def vptreeNearRow : OpenClaim := { program := "ytealiaafdkhonaa", sum := "47874a8d487164c7c1ca22d51c59fbad6e0ed6f6056bcc4589510f8fdd157c17", func := "plover/ploverlaw08.VptreeNear", spec := "vptreeNear", inPlace := ["slices.overlaps[plover/api.Hit]"], unfollowed := true, recurses := true, apart := false }
def VptreeNearSaid : Prop := vptreeNearRow.holds Try.pinned (OpenSpec.ofChange vptreeNearSpec)

/-- ITS FALSE NEIGHBOUR: 'it returns false'. Refute it at one input. -/
def vptreeNearWrong : ChangeSpec := { name := "vptreeNear", fn := fun _ => fun
  | [d1, d2, d3] => { results := [.lit (.bool false)], args := [d1, d2, d3] }
  | _ => none }
def VptreeNearWrongFalsely : Prop := vptreeNearRow.holds Try.pinned (OpenSpec.ofChange vptreeNearWrong)

/-- 'ploverlaw08.VptreeLimit': WHATEVER THE INPUT: true; the input reads as it did. -/
def vptreeLimitSpec : ChangeSpec := { name := "vptreeLimit", fn := fun _ => fun
  | [d1, d2, d3] => { results := [.lit (.bool true)], args := [d1, d2, d3] }
  | _ => none }
def vptreeLimitRow : OpenClaim := { program := "ytealiaafdkhonaa", sum := "47874a8d487164c7c1ca22d51c59fbad6e0ed6f6056bcc4589510f8fdd157c17", func := "plover/ploverlaw08.VptreeLimit", spec := "vptreeLimit", inPlace := ["slices.overlaps[plover/api.Hit]"], unfollowed := true, recurses := true, apart := false }
def VptreeLimitSaid : Prop := vptreeLimitRow.holds Try.pinned (OpenSpec.ofChange vptreeLimitSpec)

/-- ITS FALSE NEIGHBOUR: 'it returns false'. Refute it at one input. -/
def vptreeLimitWrong : ChangeSpec := { name := "vptreeLimit", fn := fun _ => fun
  | [d1, d2, d3] => { results := [.lit (.bool false)], args := [d1, d2, d3] }
  | _ => none }
def VptreeLimitWrongFalsely : Prop := vptreeLimitRow.holds Try.pinned (OpenSpec.ofChange vptreeLimitWrong)

/-- 'ploverlaw08.VptreeOrder': WHATEVER THE INPUT: true; the input reads as it did. -/
def vptreeOrderSpec : ChangeSpec := { name := "vptreeOrder", fn := fun _ => fun
  | [d1, d2, d3] => { results := [.lit (.bool true)], args := [d1, d2, d3] }
  | _ => none }
def vptreeOrderRow : OpenClaim := { program := "ytealiaafdkhonaa", sum := "47874a8d487164c7c1ca22d51c59fbad6e0ed6f6056bcc4589510f8fdd157c17", func := "plover/ploverlaw08.VptreeOrder", spec := "vptreeOrder", inPlace := ["slices.overlaps[plover/api.Hit]"], unfollowed := true, recurses := true, apart := false }
def VptreeOrderSaid : Prop := vptreeOrderRow.holds Try.pinned (OpenSpec.ofChange vptreeOrderSpec)

/-- ITS FALSE NEIGHBOUR: 'it returns false'. Refute it at one input. -/
def vptreeOrderWrong : ChangeSpec := { name := "vptreeOrder", fn := fun _ => fun
  | [d1, d2, d3] => { results := [.lit (.bool false)], args := [d1, d2, d3] }
  | _ => none }
def VptreeOrderWrongFalsely : Prop := vptreeOrderRow.holds Try.pinned (OpenSpec.ofChange vptreeOrderWrong)

/-- 'ploverlaw08.VptreeFull': WHATEVER THE INPUT: true; the input reads as it did. -/
def vptreeFullSpec : ChangeSpec := { name := "vptreeFull", fn := fun _ => fun
  | [d] => { results := [.lit (.bool true)], args := [d] }
  | _ => none }
def vptreeFullRow : OpenClaim := { program := "ytealiaafdkhonaa", sum := "47874a8d487164c7c1ca22d51c59fbad6e0ed6f6056bcc4589510f8fdd157c17", func := "plover/ploverlaw08.VptreeFull", spec := "vptreeFull", inPlace := ["slices.overlaps[plover/api.Hit]"], unfollowed := true, recurses := true, apart := false }
def VptreeFullSaid : Prop := vptreeFullRow.holds Try.pinned (OpenSpec.ofChange vptreeFullSpec)

/-- ITS FALSE NEIGHBOUR: 'it returns false'. Refute it at one input. -/
def vptreeFullWrong : ChangeSpec := { name := "vptreeFull", fn := fun _ => fun
  | [d] => { results := [.lit (.bool false)], args := [d] }
  | _ => none }
def VptreeFullWrongFalsely : Prop := vptreeFullRow.holds Try.pinned (OpenSpec.ofChange vptreeFullWrong)

/-- 'ploverlaw08.VptreeSelf': WHATEVER THE INPUT: true; the input reads as it did. -/
def vptreeSelfSpec : ChangeSpec := { name := "vptreeSelf", fn := fun _ => fun
  | [d1, d2] => { results := [.lit (.bool true)], args := [d1, d2] }
  | _ => none }
def vptreeSelfRow : OpenClaim := { program := "ytealiaafdkhonaa", sum := "47874a8d487164c7c1ca22d51c59fbad6e0ed6f6056bcc4589510f8fdd157c17", func := "plover/ploverlaw08.VptreeSelf", spec := "vptreeSelf", inPlace := ["slices.overlaps[plover/api.Hit]"], unfollowed := true, recurses := true, apart := false }
def VptreeSelfSaid : Prop := vptreeSelfRow.holds Try.pinned (OpenSpec.ofChange vptreeSelfSpec)

/-- ITS FALSE NEIGHBOUR: 'it returns false'. Refute it at one input. -/
def vptreeSelfWrong : ChangeSpec := { name := "vptreeSelf", fn := fun _ => fun
  | [d1, d2] => { results := [.lit (.bool false)], args := [d1, d2] }
  | _ => none }
def VptreeSelfWrongFalsely : Prop := vptreeSelfRow.holds Try.pinned (OpenSpec.ofChange vptreeSelfWrong)

/-- 'ploverlaw08.VptreeDrops': WHATEVER THE INPUT: true; the input reads as it did. -/
def vptreeDropsSpec : ChangeSpec := { name := "vptreeDrops", fn := fun _ => fun
  | [d1, d2, d3] => { results := [.lit (.bool true)], args := [d1, d2, d3] }
  | _ => none }
def vptreeDropsRow : OpenClaim := { program := "ytealiaafdkhonaa", sum := "47874a8d487164c7c1ca22d51c59fbad6e0ed6f6056bcc4589510f8fdd157c17", func := "plover/ploverlaw08.VptreeDrops", spec := "vptreeDrops", inPlace := ["slices.overlaps[plover/api.Hit]"], unfollowed := true, recurses := true, apart := false }
def VptreeDropsSaid : Prop := vptreeDropsRow.holds Try.pinned (OpenSpec.ofChange vptreeDropsSpec)

/-- ITS FALSE NEIGHBOUR: 'it returns false'. Refute it at one input. -/
def vptreeDropsWrong : ChangeSpec := { name := "vptreeDrops", fn := fun _ => fun
  | [d1, d2, d3] => { results := [.lit (.bool false)], args := [d1, d2, d3] }
  | _ => none }
def VptreeDropsWrongFalsely : Prop := vptreeDropsRow.holds Try.pinned (OpenSpec.ofChange vptreeDropsWrong)

/-- 'ploverlaw08.VptreePlays': WHATEVER THE INPUT: true; the input reads as it did. -/
def vptreePlaysSpec : ChangeSpec := { name := "vptreePlays", fn := fun _ => fun
  | [d1, d2] => { results := [.lit (.bool true)], args := [d1, d2] }
  | _ => none }
def vptreePlaysRow : OpenClaim := { program := "ytealiaafdkhonaa", sum := "47874a8d487164c7c1ca22d51c59fbad6e0ed6f6056bcc4589510f8fdd157c17", func := "plover/ploverlaw08.VptreePlays", spec := "vptreePlays", inPlace := ["slices.overlaps[plover/api.Hit]"], unfollowed := true, recurses := true, apart := false }
def VptreePlaysSaid : Prop := vptreePlaysRow.holds Try.pinned (OpenSpec.ofChange vptreePlaysSpec)

/-- ITS FALSE NEIGHBOUR: 'it returns false'. Refute it at one input. -/
def vptreePlaysWrong : ChangeSpec := { name := "vptreePlays", fn := fun _ => fun
  | [d1, d2] => { results := [.lit (.bool false)], args := [d1, d2] }
  | _ => none }
def VptreePlaysWrongFalsely : Prop := vptreePlaysRow.holds Try.pinned (OpenSpec.ofChange vptreePlaysWrong)

/-- 'ploverlaw08.VptreeNobody': WHATEVER THE INPUT: true; the input reads as it did. -/
def vptreeNobodySpec : ChangeSpec := { name := "vptreeNobody", fn := fun _ => fun
  | [d1, d2] => { results := [.lit (.bool true)], args := [d1, d2] }
  | _ => none }
def vptreeNobodyRow : OpenClaim := { program := "ytealiaafdkhonaa", sum := "47874a8d487164c7c1ca22d51c59fbad6e0ed6f6056bcc4589510f8fdd157c17", func := "plover/ploverlaw08.VptreeNobody", spec := "vptreeNobody", inPlace := ["slices.overlaps[plover/api.Hit]"], unfollowed := true, recurses := true, apart := false }
def VptreeNobodySaid : Prop := vptreeNobodyRow.holds Try.pinned (OpenSpec.ofChange vptreeNobodySpec)

/-- ITS FALSE NEIGHBOUR: 'it returns false'. Refute it at one input. -/
def vptreeNobodyWrong : ChangeSpec := { name := "vptreeNobody", fn := fun _ => fun
  | [d1, d2] => { results := [.lit (.bool false)], args := [d1, d2] }
  | _ => none }
def VptreeNobodyWrongFalsely : Prop := vptreeNobodyRow.holds Try.pinned (OpenSpec.ofChange vptreeNobodyWrong)

/- THE SECOND FORM. 'bulk': how many values and letters a reading holds, each counted each time it is reached (what is shared counts as often as it is met; a slice's spare places count too). A statement '..UptoSaid' is the law's where the arguments, and the package variables that the reading takes, are together of bulk at most 1048576: NARROWER than '..Said'. Prove '..Said' where nothing that the law and all that it calls make is longer than what came in: it says more and counts as full. Else prove '..UptoSaid'. A law counts once. -/
mutual
def uptoBulk {H : Type} : DataW H → Nat
  | .lit (.string bytes) => bytes.length + 1
  | .lit _ => 1
  | .nil => 1
  | .ptr d => uptoBulk d + 1
  | .slice elems spare => uptoBulkAll elems + uptoBulkAll spare + 1
  | .agg parts => uptoBulkAll parts + 1
  | .iface _ d => uptoBulk d + 1
  | .map entries => uptoBulkEntries entries + 1
  | .held _ => 1
def uptoBulkAll {H : Type} : List (DataW H) → Nat
  | [] => 0
  | d :: r => uptoBulk d + uptoBulkAll r
def uptoBulkEntries {H : Type} : List (Lit × DataW H) → Nat
  | [] => 0
  | x :: r => uptoBulkEntry x + uptoBulkEntries r
def uptoBulkEntry {H : Type} : Lit × DataW H → Nat
  | (.string bytes, d) => bytes.length + uptoBulk d + 1
  | (_, d) => uptoBulk d + 1
 end
def uptoSmall : (H : Type) → List (DataW H) → Bool := fun _ ds => decide (uptoBulkAll ds ≤ 1048576)
def OpenSpec.upto (s : _root_.Go.ChangeSpec) : _root_.Go.OpenSpec := { _root_.Go.OpenSpec.ofChange s with cond := some uptoSmall }

/-- 'ploverlaw08.VptreeNear', WHERE WHAT IT READS IS OF BULK AT MOST 1048576: true; the input reads as it did. -/
def vptreeNearUptoRow : OpenClaim := { program := "ytealiaafdkhonaa", sum := "47874a8d487164c7c1ca22d51c59fbad6e0ed6f6056bcc4589510f8fdd157c17", func := "plover/ploverlaw08.VptreeNear", spec := "vptreeNear", inPlace := ["slices.overlaps[plover/api.Hit]"], unfollowed := true, recurses := true, apart := false, narrowed := true }
def VptreeNearUptoSaid : Prop := vptreeNearUptoRow.holds Try.pinned (OpenSpec.upto vptreeNearSpec)

/-- 'ploverlaw08.VptreeLimit', WHERE WHAT IT READS IS OF BULK AT MOST 1048576: true; the input reads as it did. -/
def vptreeLimitUptoRow : OpenClaim := { program := "ytealiaafdkhonaa", sum := "47874a8d487164c7c1ca22d51c59fbad6e0ed6f6056bcc4589510f8fdd157c17", func := "plover/ploverlaw08.VptreeLimit", spec := "vptreeLimit", inPlace := ["slices.overlaps[plover/api.Hit]"], unfollowed := true, recurses := true, apart := false, narrowed := true }
def VptreeLimitUptoSaid : Prop := vptreeLimitUptoRow.holds Try.pinned (OpenSpec.upto vptreeLimitSpec)

/-- 'ploverlaw08.VptreeOrder', WHERE WHAT IT READS IS OF BULK AT MOST 1048576: true; the input reads as it did. -/
def vptreeOrderUptoRow : OpenClaim := { program := "ytealiaafdkhonaa", sum := "47874a8d487164c7c1ca22d51c59fbad6e0ed6f6056bcc4589510f8fdd157c17", func := "plover/ploverlaw08.VptreeOrder", spec := "vptreeOrder", inPlace := ["slices.overlaps[plover/api.Hit]"], unfollowed := true, recurses := true, apart := false, narrowed := true }
def VptreeOrderUptoSaid : Prop := vptreeOrderUptoRow.holds Try.pinned (OpenSpec.upto vptreeOrderSpec)

/-- 'ploverlaw08.VptreeFull', WHERE WHAT IT READS IS OF BULK AT MOST 1048576: true; the input reads as it did. -/
def vptreeFullUptoRow : OpenClaim := { program := "ytealiaafdkhonaa", sum := "47874a8d487164c7c1ca22d51c59fbad6e0ed6f6056bcc4589510f8fdd157c17", func := "plover/ploverlaw08.VptreeFull", spec := "vptreeFull", inPlace := ["slices.overlaps[plover/api.Hit]"], unfollowed := true, recurses := true, apart := false, narrowed := true }
def VptreeFullUptoSaid : Prop := vptreeFullUptoRow.holds Try.pinned (OpenSpec.upto vptreeFullSpec)

/-- 'ploverlaw08.VptreeSelf', WHERE WHAT IT READS IS OF BULK AT MOST 1048576: true; the input reads as it did. -/
def vptreeSelfUptoRow : OpenClaim := { program := "ytealiaafdkhonaa", sum := "47874a8d487164c7c1ca22d51c59fbad6e0ed6f6056bcc4589510f8fdd157c17", func := "plover/ploverlaw08.VptreeSelf", spec := "vptreeSelf", inPlace := ["slices.overlaps[plover/api.Hit]"], unfollowed := true, recurses := true, apart := false, narrowed := true }
def VptreeSelfUptoSaid : Prop := vptreeSelfUptoRow.holds Try.pinned (OpenSpec.upto vptreeSelfSpec)

/-- 'ploverlaw08.VptreeDrops', WHERE WHAT IT READS IS OF BULK AT MOST 1048576: true; the input reads as it did. -/
def vptreeDropsUptoRow : OpenClaim := { program := "ytealiaafdkhonaa", sum := "47874a8d487164c7c1ca22d51c59fbad6e0ed6f6056bcc4589510f8fdd157c17", func := "plover/ploverlaw08.VptreeDrops", spec := "vptreeDrops", inPlace := ["slices.overlaps[plover/api.Hit]"], unfollowed := true, recurses := true, apart := false, narrowed := true }
def VptreeDropsUptoSaid : Prop := vptreeDropsUptoRow.holds Try.pinned (OpenSpec.upto vptreeDropsSpec)

/-- 'ploverlaw08.VptreePlays', WHERE WHAT IT READS IS OF BULK AT MOST 1048576: true; the input reads as it did. -/
def vptreePlaysUptoRow : OpenClaim := { program := "ytealiaafdkhonaa", sum := "47874a8d487164c7c1ca22d51c59fbad6e0ed6f6056bcc4589510f8fdd157c17", func := "plover/ploverlaw08.VptreePlays", spec := "vptreePlays", inPlace := ["slices.overlaps[plover/api.Hit]"], unfollowed := true, recurses := true, apart := false, narrowed := true }
def VptreePlaysUptoSaid : Prop := vptreePlaysUptoRow.holds Try.pinned (OpenSpec.upto vptreePlaysSpec)

/-- 'ploverlaw08.VptreeNobody', WHERE WHAT IT READS IS OF BULK AT MOST 1048576: true; the input reads as it did. -/
def vptreeNobodyUptoRow : OpenClaim := { program := "ytealiaafdkhonaa", sum := "47874a8d487164c7c1ca22d51c59fbad6e0ed6f6056bcc4589510f8fdd157c17", func := "plover/ploverlaw08.VptreeNobody", spec := "vptreeNobody", inPlace := ["slices.overlaps[plover/api.Hit]"], unfollowed := true, recurses := true, apart := false, narrowed := true }
def VptreeNobodyUptoSaid : Prop := vptreeNobodyUptoRow.holds Try.pinned (OpenSpec.upto vptreeNobodySpec)

end Rows
end Go.Proofs.Ytealiaafdkhonaa
