/-
  No cell of these rows narrows 'for every input' (looked for: loops, veiled, ifaces, maps, wideKeys, modest, calm, conditions, laid).
  DERIVED. THE GIVEN ROWS OF THIS SEAT. 9 by the template 'for every input the law returns true; each argument reads behind the call as it read before'; 0 by the template 'total and deterministic' (their statements: YtcgohceakjjlhaaTotals.lean).
  GIVEN WITH THE SEED: the statements are not yours to turn. If you find one false, say at which input.
  Laid BY PROGRAM, IN A SANDBOX (cutbox-rows.mjs): the forced cells as the released guide's own fill.sh prints them over the translation 88f4f306f4b3e857… (all of the seat's roots in one cut). By AI agents, Wed Nov 11 2026. No macro, syntax, notation, axiom, sorry.
-/
import Derived.Test.YtcgohceakjjlhaaChecked
import GoSem.Claim
import GoSem.ClaimJoined
import GoSem.ClaimMapViews
import Derived.JoinedTies
import Derived.KernelRfl
namespace Go.Proofs.Ytcgohceakjjlhaa
/- THE CELL 'sum', in the pinned program and in every row, IS THE sha256 OF THE DUMP (.gsa) THAT YtcgohceakjjlhaaProg.lean LOADS. Nothing in Lean hashes anything: it is a label: what it is worth is what the hold of that sum in a sandbox is worth. -/
noncomputable def Try.pinned : Pinned := { name := "ytcgohceakjjlhaa", sum := "88f4f306f4b3e857273e370bce5a8bc4d72eb059c2f516afeffb1da46beaad72", checked := Try.checked }
namespace Rows
def none {H : Type} : Left H := { results := [], args := [] }

/-- 'laws.FnExactRegionMotions': WHATEVER THE INPUT: true; the input reads as it did. -/
def fnExactRegionMotionsSpec : ChangeSpec := { name := "fnExactRegionMotions", fn := fun _ => fun
  | [d] => { results := [.lit (.bool true)], args := [d] }
  | _ => none }
def fnExactRegionMotionsRow : OpenClaim := { program := "ytcgohceakjjlhaa", sum := "88f4f306f4b3e857273e370bce5a8bc4d72eb059c2f516afeffb1da46beaad72", func := "loop.example/g03400/laws.FnExactRegionMotions", spec := "fnExactRegionMotions", plainKeys := false, apart := false }
def FnExactRegionMotionsSaid : Prop := fnExactRegionMotionsRow.holds Try.pinned (OpenSpec.ofChange fnExactRegionMotionsSpec)

/-- ITS FALSE NEIGHBOUR: 'it returns false'. Refute it at one input. -/
def fnExactRegionMotionsWrong : ChangeSpec := { name := "fnExactRegionMotions", fn := fun _ => fun
  | [d] => { results := [.lit (.bool false)], args := [d] }
  | _ => none }
def FnExactRegionMotionsWrongFalsely : Prop := fnExactRegionMotionsRow.holds Try.pinned (OpenSpec.ofChange fnExactRegionMotionsWrong)

/-- 'laws.FnExactTurnMask': WHATEVER THE INPUT: true; the input reads as it did. -/
def fnExactTurnMaskSpec : ChangeSpec := { name := "fnExactTurnMask", fn := fun _ => fun
  | [d1, d2, d3] => { results := [.lit (.bool true)], args := [d1, d2, d3] }
  | _ => none }
def fnExactTurnMaskRow : OpenClaim := { program := "ytcgohceakjjlhaa", sum := "88f4f306f4b3e857273e370bce5a8bc4d72eb059c2f516afeffb1da46beaad72", func := "loop.example/g03400/laws.FnExactTurnMask", spec := "fnExactTurnMask", plainKeys := false, apart := false }
def FnExactTurnMaskSaid : Prop := fnExactTurnMaskRow.holds Try.pinned (OpenSpec.ofChange fnExactTurnMaskSpec)

/-- ITS FALSE NEIGHBOUR: 'it returns false'. Refute it at one input. -/
def fnExactTurnMaskWrong : ChangeSpec := { name := "fnExactTurnMask", fn := fun _ => fun
  | [d1, d2, d3] => { results := [.lit (.bool false)], args := [d1, d2, d3] }
  | _ => none }
def FnExactTurnMaskWrongFalsely : Prop := fnExactTurnMaskRow.holds Try.pinned (OpenSpec.ofChange fnExactTurnMaskWrong)

/-- 'laws.FnExactShapeOfWord': WHATEVER THE INPUT: true; the input reads as it did. -/
def fnExactShapeOfWordSpec : ChangeSpec := { name := "fnExactShapeOfWord", fn := fun _ => fun
  | [d] => { results := [.lit (.bool true)], args := [d] }
  | _ => none }
def fnExactShapeOfWordRow : OpenClaim := { program := "ytcgohceakjjlhaa", sum := "88f4f306f4b3e857273e370bce5a8bc4d72eb059c2f516afeffb1da46beaad72", func := "loop.example/g03400/laws.FnExactShapeOfWord", spec := "fnExactShapeOfWord", inPlace := ["internal/reflectlite.ValueOf", "internal/reflectlite.Swapper", "(internal/reflectlite.Value).Len"], unfollowed := true, recurses := true, plainKeys := false, apart := false }
def FnExactShapeOfWordSaid : Prop := fnExactShapeOfWordRow.holds Try.pinned (OpenSpec.ofChange fnExactShapeOfWordSpec)

/-- ITS FALSE NEIGHBOUR: 'it returns false'. Refute it at one input. -/
def fnExactShapeOfWordWrong : ChangeSpec := { name := "fnExactShapeOfWord", fn := fun _ => fun
  | [d] => { results := [.lit (.bool false)], args := [d] }
  | _ => none }
def FnExactShapeOfWordWrongFalsely : Prop := fnExactShapeOfWordRow.holds Try.pinned (OpenSpec.ofChange fnExactShapeOfWordWrong)

/-- 'laws.FnExactCountByGrowth': WHATEVER THE INPUT: true; the input reads as it did. -/
def fnExactCountByGrowthSpec : ChangeSpec := { name := "fnExactCountByGrowth", fn := fun _ => fun
  | [d] => { results := [.lit (.bool true)], args := [d] }
  | _ => none }
def fnExactCountByGrowthRow : OpenClaim := { program := "ytcgohceakjjlhaa", sum := "88f4f306f4b3e857273e370bce5a8bc4d72eb059c2f516afeffb1da46beaad72", func := "loop.example/g03400/laws.FnExactCountByGrowth", spec := "fnExactCountByGrowth", inPlace := ["internal/reflectlite.ValueOf", "internal/reflectlite.Swapper", "(internal/reflectlite.Value).Len"], unfollowed := true, recurses := true, plainKeys := false, apart := false }
def FnExactCountByGrowthSaid : Prop := fnExactCountByGrowthRow.holds Try.pinned (OpenSpec.ofChange fnExactCountByGrowthSpec)

/-- ITS FALSE NEIGHBOUR: 'it returns false'. Refute it at one input. -/
def fnExactCountByGrowthWrong : ChangeSpec := { name := "fnExactCountByGrowth", fn := fun _ => fun
  | [d] => { results := [.lit (.bool false)], args := [d] }
  | _ => none }
def FnExactCountByGrowthWrongFalsely : Prop := fnExactCountByGrowthRow.holds Try.pinned (OpenSpec.ofChange fnExactCountByGrowthWrong)

/-- 'laws.FnExactCountByRows': WHATEVER THE INPUT: true; the input reads as it did. -/
def fnExactCountByRowsSpec : ChangeSpec := { name := "fnExactCountByRows", fn := fun _ => fun
  | [d] => { results := [.lit (.bool true)], args := [d] }
  | _ => none }
def fnExactCountByRowsRow : OpenClaim := { program := "ytcgohceakjjlhaa", sum := "88f4f306f4b3e857273e370bce5a8bc4d72eb059c2f516afeffb1da46beaad72", func := "loop.example/g03400/laws.FnExactCountByRows", spec := "fnExactCountByRows", inPlace := ["internal/reflectlite.ValueOf", "internal/reflectlite.Swapper", "(internal/reflectlite.Value).Len"], unfollowed := true, recurses := true, plainKeys := false, apart := false }
def FnExactCountByRowsSaid : Prop := fnExactCountByRowsRow.holds Try.pinned (OpenSpec.ofChange fnExactCountByRowsSpec)

/-- ITS FALSE NEIGHBOUR: 'it returns false'. Refute it at one input. -/
def fnExactCountByRowsWrong : ChangeSpec := { name := "fnExactCountByRows", fn := fun _ => fun
  | [d] => { results := [.lit (.bool false)], args := [d] }
  | _ => none }
def FnExactCountByRowsWrongFalsely : Prop := fnExactCountByRowsRow.holds Try.pinned (OpenSpec.ofChange fnExactCountByRowsWrong)

/-- 'laws.FnExactShapesWithSites': WHATEVER THE INPUT: true; the input reads as it did. -/
def fnExactShapesWithSitesSpec : ChangeSpec := { name := "fnExactShapesWithSites", fn := fun _ => fun
  | [d1, d2] => { results := [.lit (.bool true)], args := [d1, d2] }
  | _ => none }
def fnExactShapesWithSitesRow : OpenClaim := { program := "ytcgohceakjjlhaa", sum := "88f4f306f4b3e857273e370bce5a8bc4d72eb059c2f516afeffb1da46beaad72", func := "loop.example/g03400/laws.FnExactShapesWithSites", spec := "fnExactShapesWithSites", inPlace := ["internal/reflectlite.ValueOf", "internal/reflectlite.Swapper", "(internal/reflectlite.Value).Len"], unfollowed := true, recurses := true, plainKeys := false, apart := false }
def FnExactShapesWithSitesSaid : Prop := fnExactShapesWithSitesRow.holds Try.pinned (OpenSpec.ofChange fnExactShapesWithSitesSpec)

/-- ITS FALSE NEIGHBOUR: 'it returns false'. Refute it at one input. -/
def fnExactShapesWithSitesWrong : ChangeSpec := { name := "fnExactShapesWithSites", fn := fun _ => fun
  | [d1, d2] => { results := [.lit (.bool false)], args := [d1, d2] }
  | _ => none }
def FnExactShapesWithSitesWrongFalsely : Prop := fnExactShapesWithSitesRow.holds Try.pinned (OpenSpec.ofChange fnExactShapesWithSitesWrong)

/-- 'laws.FnExactFewestNeighbours': WHATEVER THE INPUT: true; the input reads as it did. -/
def fnExactFewestNeighboursSpec : ChangeSpec := { name := "fnExactFewestNeighbours", fn := fun _ => fun
  | [d] => { results := [.lit (.bool true)], args := [d] }
  | _ => none }
def fnExactFewestNeighboursRow : OpenClaim := { program := "ytcgohceakjjlhaa", sum := "88f4f306f4b3e857273e370bce5a8bc4d72eb059c2f516afeffb1da46beaad72", func := "loop.example/g03400/laws.FnExactFewestNeighbours", spec := "fnExactFewestNeighbours", inPlace := ["internal/reflectlite.ValueOf", "internal/reflectlite.Swapper", "(internal/reflectlite.Value).Len"], unfollowed := true, recurses := true, plainKeys := false, apart := false }
def FnExactFewestNeighboursSaid : Prop := fnExactFewestNeighboursRow.holds Try.pinned (OpenSpec.ofChange fnExactFewestNeighboursSpec)

/-- ITS FALSE NEIGHBOUR: 'it returns false'. Refute it at one input. -/
def fnExactFewestNeighboursWrong : ChangeSpec := { name := "fnExactFewestNeighbours", fn := fun _ => fun
  | [d] => { results := [.lit (.bool false)], args := [d] }
  | _ => none }
def FnExactFewestNeighboursWrongFalsely : Prop := fnExactFewestNeighboursRow.holds Try.pinned (OpenSpec.ofChange fnExactFewestNeighboursWrong)

/-- 'laws.FnExactMostNeighbours': WHATEVER THE INPUT: true; the input reads as it did. -/
def fnExactMostNeighboursSpec : ChangeSpec := { name := "fnExactMostNeighbours", fn := fun _ => fun
  | [d] => { results := [.lit (.bool true)], args := [d] }
  | _ => none }
def fnExactMostNeighboursRow : OpenClaim := { program := "ytcgohceakjjlhaa", sum := "88f4f306f4b3e857273e370bce5a8bc4d72eb059c2f516afeffb1da46beaad72", func := "loop.example/g03400/laws.FnExactMostNeighbours", spec := "fnExactMostNeighbours", inPlace := ["internal/reflectlite.ValueOf", "internal/reflectlite.Swapper", "(internal/reflectlite.Value).Len"], unfollowed := true, recurses := true, plainKeys := false, apart := false }
def FnExactMostNeighboursSaid : Prop := fnExactMostNeighboursRow.holds Try.pinned (OpenSpec.ofChange fnExactMostNeighboursSpec)

/-- ITS FALSE NEIGHBOUR: 'it returns false'. Refute it at one input. -/
def fnExactMostNeighboursWrong : ChangeSpec := { name := "fnExactMostNeighbours", fn := fun _ => fun
  | [d] => { results := [.lit (.bool false)], args := [d] }
  | _ => none }
def FnExactMostNeighboursWrongFalsely : Prop := fnExactMostNeighboursRow.holds Try.pinned (OpenSpec.ofChange fnExactMostNeighboursWrong)

/-- 'laws.FnExactSiteTable': WHATEVER THE INPUT: true; the input reads as it did. -/
def fnExactSiteTableSpec : ChangeSpec := { name := "fnExactSiteTable", fn := fun _ => fun
  | [d] => { results := [.lit (.bool true)], args := [d] }
  | _ => none }
def fnExactSiteTableRow : OpenClaim := { program := "ytcgohceakjjlhaa", sum := "88f4f306f4b3e857273e370bce5a8bc4d72eb059c2f516afeffb1da46beaad72", func := "loop.example/g03400/laws.FnExactSiteTable", spec := "fnExactSiteTable", inPlace := ["internal/reflectlite.ValueOf", "internal/reflectlite.Swapper", "(internal/reflectlite.Value).Len"], unfollowed := true, recurses := true, plainKeys := false, apart := false }
def FnExactSiteTableSaid : Prop := fnExactSiteTableRow.holds Try.pinned (OpenSpec.ofChange fnExactSiteTableSpec)

/-- ITS FALSE NEIGHBOUR: 'it returns false'. Refute it at one input. -/
def fnExactSiteTableWrong : ChangeSpec := { name := "fnExactSiteTable", fn := fun _ => fun
  | [d] => { results := [.lit (.bool false)], args := [d] }
  | _ => none }
def FnExactSiteTableWrongFalsely : Prop := fnExactSiteTableRow.holds Try.pinned (OpenSpec.ofChange fnExactSiteTableWrong)

/- THE SECOND FORM. 'bulk': how many values and letters a reading holds, each counted each time it is reached (what is shared counts as often as it is met; a slice's spare places count too). A statement '..UptoSaid' is the law's where the arguments, and the package variables that the reading takes, are together of bulk at most 1048576: NARROWER than '..Said'. Prove '..Said' where nothing that the law and all that it calls make is longer than what came in: it says more and counts as full. Else prove '..UptoSaid'. A law counts once. -/
mutual
def uptoBulk {H : Type} : DataW H → Nat
  | .lit (.string bytes) => bytes.length + 1
  | .lit _ => 1
  | .nil => 1
  | .ptr d => uptoBulk d + 1
  | .slice elems spare => uptoBulkAll elems + uptoBulkAll spare + 1
  | .agg parts => uptoBulkAll parts + 1
  | .iface _ d => uptoBulk d + 1
  | .map entries => uptoBulkEntries entries + 1
  | .held _ => 1
def uptoBulkAll {H : Type} : List (DataW H) → Nat
  | [] => 0
  | d :: r => uptoBulk d + uptoBulkAll r
def uptoBulkEntries {H : Type} : List (Lit × DataW H) → Nat
  | [] => 0
  | x :: r => uptoBulkEntry x + uptoBulkEntries r
def uptoBulkEntry {H : Type} : Lit × DataW H → Nat
  | (.string bytes, d) => bytes.length + uptoBulk d + 1
  | (_, d) => uptoBulk d + 1
 end
def uptoSmall : (H : Type) → List (DataW H) → Bool := fun _ ds => decide (uptoBulkAll ds ≤ 1048576)
def OpenSpec.upto (s : _root_.Go.ChangeSpec) : _root_.Go.OpenSpec := { _root_.Go.OpenSpec.ofChange s with cond := some uptoSmall }

/-- 'laws.FnExactRegionMotions', WHERE WHAT IT READS IS OF BULK AT MOST 1048576: true; the input reads as it did. -/
def fnExactRegionMotionsUptoRow : OpenClaim := { program := "ytcgohceakjjlhaa", sum := "88f4f306f4b3e857273e370bce5a8bc4d72eb059c2f516afeffb1da46beaad72", func := "loop.example/g03400/laws.FnExactRegionMotions", spec := "fnExactRegionMotions", plainKeys := false, apart := false, narrowed := true }
def FnExactRegionMotionsUptoSaid : Prop := fnExactRegionMotionsUptoRow.holds Try.pinned (OpenSpec.upto fnExactRegionMotionsSpec)

/-- 'laws.FnExactTurnMask', WHERE WHAT IT READS IS OF BULK AT MOST 1048576: true; the input reads as it did. -/
def fnExactTurnMaskUptoRow : OpenClaim := { program := "ytcgohceakjjlhaa", sum := "88f4f306f4b3e857273e370bce5a8bc4d72eb059c2f516afeffb1da46beaad72", func := "loop.example/g03400/laws.FnExactTurnMask", spec := "fnExactTurnMask", plainKeys := false, apart := false, narrowed := true }
def FnExactTurnMaskUptoSaid : Prop := fnExactTurnMaskUptoRow.holds Try.pinned (OpenSpec.upto fnExactTurnMaskSpec)

/-- 'laws.FnExactShapeOfWord', WHERE WHAT IT READS IS OF BULK AT MOST 1048576: true; the input reads as it did. -/
def fnExactShapeOfWordUptoRow : OpenClaim := { program := "ytcgohceakjjlhaa", sum := "88f4f306f4b3e857273e370bce5a8bc4d72eb059c2f516afeffb1da46beaad72", func := "loop.example/g03400/laws.FnExactShapeOfWord", spec := "fnExactShapeOfWord", inPlace := ["internal/reflectlite.ValueOf", "internal/reflectlite.Swapper", "(internal/reflectlite.Value).Len"], unfollowed := true, recurses := true, plainKeys := false, apart := false, narrowed := true }
def FnExactShapeOfWordUptoSaid : Prop := fnExactShapeOfWordUptoRow.holds Try.pinned (OpenSpec.upto fnExactShapeOfWordSpec)

/-- 'laws.FnExactCountByGrowth', WHERE WHAT IT READS IS OF BULK AT MOST 1048576: true; the input reads as it did. -/
def fnExactCountByGrowthUptoRow : OpenClaim := { program := "ytcgohceakjjlhaa", sum := "88f4f306f4b3e857273e370bce5a8bc4d72eb059c2f516afeffb1da46beaad72", func := "loop.example/g03400/laws.FnExactCountByGrowth", spec := "fnExactCountByGrowth", inPlace := ["internal/reflectlite.ValueOf", "internal/reflectlite.Swapper", "(internal/reflectlite.Value).Len"], unfollowed := true, recurses := true, plainKeys := false, apart := false, narrowed := true }
def FnExactCountByGrowthUptoSaid : Prop := fnExactCountByGrowthUptoRow.holds Try.pinned (OpenSpec.upto fnExactCountByGrowthSpec)

/-- 'laws.FnExactCountByRows', WHERE WHAT IT READS IS OF BULK AT MOST 1048576: true; the input reads as it did. -/
def fnExactCountByRowsUptoRow : OpenClaim := { program := "ytcgohceakjjlhaa", sum := "88f4f306f4b3e857273e370bce5a8bc4d72eb059c2f516afeffb1da46beaad72", func := "loop.example/g03400/laws.FnExactCountByRows", spec := "fnExactCountByRows", inPlace := ["internal/reflectlite.ValueOf", "internal/reflectlite.Swapper", "(internal/reflectlite.Value).Len"], unfollowed := true, recurses := true, plainKeys := false, apart := false, narrowed := true }
def FnExactCountByRowsUptoSaid : Prop := fnExactCountByRowsUptoRow.holds Try.pinned (OpenSpec.upto fnExactCountByRowsSpec)

/-- 'laws.FnExactShapesWithSites', WHERE WHAT IT READS IS OF BULK AT MOST 1048576: true; the input reads as it did. -/
def fnExactShapesWithSitesUptoRow : OpenClaim := { program := "ytcgohceakjjlhaa", sum := "88f4f306f4b3e857273e370bce5a8bc4d72eb059c2f516afeffb1da46beaad72", func := "loop.example/g03400/laws.FnExactShapesWithSites", spec := "fnExactShapesWithSites", inPlace := ["internal/reflectlite.ValueOf", "internal/reflectlite.Swapper", "(internal/reflectlite.Value).Len"], unfollowed := true, recurses := true, plainKeys := false, apart := false, narrowed := true }
def FnExactShapesWithSitesUptoSaid : Prop := fnExactShapesWithSitesUptoRow.holds Try.pinned (OpenSpec.upto fnExactShapesWithSitesSpec)

/-- 'laws.FnExactFewestNeighbours', WHERE WHAT IT READS IS OF BULK AT MOST 1048576: true; the input reads as it did. -/
def fnExactFewestNeighboursUptoRow : OpenClaim := { program := "ytcgohceakjjlhaa", sum := "88f4f306f4b3e857273e370bce5a8bc4d72eb059c2f516afeffb1da46beaad72", func := "loop.example/g03400/laws.FnExactFewestNeighbours", spec := "fnExactFewestNeighbours", inPlace := ["internal/reflectlite.ValueOf", "internal/reflectlite.Swapper", "(internal/reflectlite.Value).Len"], unfollowed := true, recurses := true, plainKeys := false, apart := false, narrowed := true }
def FnExactFewestNeighboursUptoSaid : Prop := fnExactFewestNeighboursUptoRow.holds Try.pinned (OpenSpec.upto fnExactFewestNeighboursSpec)

/-- 'laws.FnExactMostNeighbours', WHERE WHAT IT READS IS OF BULK AT MOST 1048576: true; the input reads as it did. -/
def fnExactMostNeighboursUptoRow : OpenClaim := { program := "ytcgohceakjjlhaa", sum := "88f4f306f4b3e857273e370bce5a8bc4d72eb059c2f516afeffb1da46beaad72", func := "loop.example/g03400/laws.FnExactMostNeighbours", spec := "fnExactMostNeighbours", inPlace := ["internal/reflectlite.ValueOf", "internal/reflectlite.Swapper", "(internal/reflectlite.Value).Len"], unfollowed := true, recurses := true, plainKeys := false, apart := false, narrowed := true }
def FnExactMostNeighboursUptoSaid : Prop := fnExactMostNeighboursUptoRow.holds Try.pinned (OpenSpec.upto fnExactMostNeighboursSpec)

/-- 'laws.FnExactSiteTable', WHERE WHAT IT READS IS OF BULK AT MOST 1048576: true; the input reads as it did. -/
def fnExactSiteTableUptoRow : OpenClaim := { program := "ytcgohceakjjlhaa", sum := "88f4f306f4b3e857273e370bce5a8bc4d72eb059c2f516afeffb1da46beaad72", func := "loop.example/g03400/laws.FnExactSiteTable", spec := "fnExactSiteTable", inPlace := ["internal/reflectlite.ValueOf", "internal/reflectlite.Swapper", "(internal/reflectlite.Value).Len"], unfollowed := true, recurses := true, plainKeys := false, apart := false, narrowed := true }
def FnExactSiteTableUptoSaid : Prop := fnExactSiteTableUptoRow.holds Try.pinned (OpenSpec.upto fnExactSiteTableSpec)

end Rows
end Go.Proofs.Ytcgohceakjjlhaa
