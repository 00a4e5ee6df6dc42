/-
  No cell of these rows narrows 'for every input' (looked for: loops, veiled, ifaces, maps, wideKeys, modest, calm, conditions, laid).
  DERIVED. THE GIVEN ROWS OF THIS SEAT. 7 by the template 'for every input the law returns true; each argument reads behind the call as it read before'; 0 by the template 'total and deterministic' (their statements: YteelmhmdnljjnaaGreatTotals.lean).
  GIVEN WITH THE SEED: the statements are not yours to turn. If you find one false, say at which input.
  Laid BY PROGRAM, IN A SANDBOX (cutbox-rows.mjs): the forced cells as the released guide's own fill.sh prints them over the translation ce5a6c0631f60b67… (all of the seat's roots in one cut). By AI agents, Wed Nov 11 2026. No macro, syntax, notation, axiom, sorry.
-/
import Derived.Test.YteelmhmdnljjnaaGreatChecked
import GoSem.Claim
import GoSem.ClaimJoined
import GoSem.ClaimMapViews
import Derived.JoinedTies
import Derived.KernelRfl
namespace Go.Proofs.YteelmhmdnljjnaaGreat
/- THE CELL 'sum', in the pinned program and in every row, IS THE sha256 OF THE DUMP (.gsa) THAT YteelmhmdnljjnaaGreatProg.lean LOADS. Nothing in Lean hashes anything: it is a label: what it is worth is what the hold of that sum in a sandbox is worth. -/
noncomputable def Tryz.pinned : Pinned := { name := "yteelmhmdnljjnaagreat", sum := "ce5a6c0631f60b67f185c2457dbdf3eeae46b4e7d0b5f7079133b5d06bd05acb", checked := Tryz.checked }
namespace Rows
def none {H : Type} : Left H := { results := [], args := [] }

/-- 'laws.FnExactIsSolution': WHATEVER THE INPUT: true; the input reads as it did. -/
def fnExactIsSolutionSpec : ChangeSpec := { name := "fnExactIsSolution", fn := fun _ => fun
  | [d1, d2, d3] => { results := [.lit (.bool true)], args := [d1, d2, d3] }
  | _ => none }
def fnExactIsSolutionRow : OpenClaim := { program := "yteelmhmdnljjnaagreat", sum := "ce5a6c0631f60b67f185c2457dbdf3eeae46b4e7d0b5f7079133b5d06bd05acb", func := "loop.example/g03400/laws.FnExactIsSolution", spec := "fnExactIsSolution", inPlace := ["internal/reflectlite.ValueOf", "internal/reflectlite.Swapper", "(internal/reflectlite.Value).Len"], unfollowed := true, recurses := true, apart := false }
def FnExactIsSolutionSaid : Prop := fnExactIsSolutionRow.holds Tryz.pinned (OpenSpec.ofChange fnExactIsSolutionSpec)

/-- ITS FALSE NEIGHBOUR: 'it returns false'. Refute it at one input. -/
def fnExactIsSolutionWrong : ChangeSpec := { name := "fnExactIsSolution", fn := fun _ => fun
  | [d1, d2, d3] => { results := [.lit (.bool false)], args := [d1, d2, d3] }
  | _ => none }
def FnExactIsSolutionWrongFalsely : Prop := fnExactIsSolutionRow.holds Tryz.pinned (OpenSpec.ofChange fnExactIsSolutionWrong)

/-- 'laws.FnExactIsCovering': WHATEVER THE INPUT: true; the input reads as it did. -/
def fnExactIsCoveringSpec : ChangeSpec := { name := "fnExactIsCovering", fn := fun _ => fun
  | [d1, d2, d3] => { results := [.lit (.bool true)], args := [d1, d2, d3] }
  | _ => none }
def fnExactIsCoveringRow : OpenClaim := { program := "yteelmhmdnljjnaagreat", sum := "ce5a6c0631f60b67f185c2457dbdf3eeae46b4e7d0b5f7079133b5d06bd05acb", func := "loop.example/g03400/laws.FnExactIsCovering", spec := "fnExactIsCovering", inPlace := ["internal/reflectlite.ValueOf", "internal/reflectlite.Swapper", "(internal/reflectlite.Value).Len"], unfollowed := true, recurses := true, apart := false }
def FnExactIsCoveringSaid : Prop := fnExactIsCoveringRow.holds Tryz.pinned (OpenSpec.ofChange fnExactIsCoveringSpec)

/-- ITS FALSE NEIGHBOUR: 'it returns false'. Refute it at one input. -/
def fnExactIsCoveringWrong : ChangeSpec := { name := "fnExactIsCovering", fn := fun _ => fun
  | [d1, d2, d3] => { results := [.lit (.bool false)], args := [d1, d2, d3] }
  | _ => none }
def FnExactIsCoveringWrongFalsely : Prop := fnExactIsCoveringRow.holds Tryz.pinned (OpenSpec.ofChange fnExactIsCoveringWrong)

/-- 'laws.FnExactIsScattered': WHATEVER THE INPUT: true; the input reads as it did. -/
def fnExactIsScatteredSpec : ChangeSpec := { name := "fnExactIsScattered", fn := fun _ => fun
  | [d1, d2, d3] => { results := [.lit (.bool true)], args := [d1, d2, d3] }
  | _ => none }
def fnExactIsScatteredRow : OpenClaim := { program := "yteelmhmdnljjnaagreat", sum := "ce5a6c0631f60b67f185c2457dbdf3eeae46b4e7d0b5f7079133b5d06bd05acb", func := "loop.example/g03400/laws.FnExactIsScattered", spec := "fnExactIsScattered", inPlace := ["internal/reflectlite.ValueOf", "internal/reflectlite.Swapper", "(internal/reflectlite.Value).Len"], unfollowed := true, recurses := true, apart := false }
def FnExactIsScatteredSaid : Prop := fnExactIsScatteredRow.holds Tryz.pinned (OpenSpec.ofChange fnExactIsScatteredSpec)

/-- ITS FALSE NEIGHBOUR: 'it returns false'. Refute it at one input. -/
def fnExactIsScatteredWrong : ChangeSpec := { name := "fnExactIsScattered", fn := fun _ => fun
  | [d1, d2, d3] => { results := [.lit (.bool false)], args := [d1, d2, d3] }
  | _ => none }
def FnExactIsScatteredWrongFalsely : Prop := fnExactIsScatteredRow.holds Tryz.pinned (OpenSpec.ofChange fnExactIsScatteredWrong)

/-- 'laws.FnExactLargestScattered': WHATEVER THE INPUT: true; the input reads as it did. -/
def fnExactLargestScatteredSpec : ChangeSpec := { name := "fnExactLargestScattered", fn := fun _ => fun
  | [d1, d2] => { results := [.lit (.bool true)], args := [d1, d2] }
  | _ => none }
def fnExactLargestScatteredRow : OpenClaim := { program := "yteelmhmdnljjnaagreat", sum := "ce5a6c0631f60b67f185c2457dbdf3eeae46b4e7d0b5f7079133b5d06bd05acb", func := "loop.example/g03400/laws.FnExactLargestScattered", spec := "fnExactLargestScattered", inPlace := ["internal/reflectlite.ValueOf", "internal/reflectlite.Swapper", "(internal/reflectlite.Value).Len"], unfollowed := true, recurses := true, apart := false }
def FnExactLargestScatteredSaid : Prop := fnExactLargestScatteredRow.holds Tryz.pinned (OpenSpec.ofChange fnExactLargestScatteredSpec)

/-- ITS FALSE NEIGHBOUR: 'it returns false'. Refute it at one input. -/
def fnExactLargestScatteredWrong : ChangeSpec := { name := "fnExactLargestScattered", fn := fun _ => fun
  | [d1, d2] => { results := [.lit (.bool false)], args := [d1, d2] }
  | _ => none }
def FnExactLargestScatteredWrongFalsely : Prop := fnExactLargestScatteredRow.holds Tryz.pinned (OpenSpec.ofChange fnExactLargestScatteredWrong)

/-- 'laws.FnExactCountWithHint': WHATEVER THE INPUT: true; the input reads as it did. -/
def fnExactCountWithHintSpec : ChangeSpec := { name := "fnExactCountWithHint", fn := fun _ => fun
  | [d1, d2, d3] => { results := [.lit (.bool true)], args := [d1, d2, d3] }
  | _ => none }
def fnExactCountWithHintRow : OpenClaim := { program := "yteelmhmdnljjnaagreat", sum := "ce5a6c0631f60b67f185c2457dbdf3eeae46b4e7d0b5f7079133b5d06bd05acb", func := "loop.example/g03400/laws.FnExactCountWithHint", spec := "fnExactCountWithHint", inPlace := ["internal/reflectlite.ValueOf", "internal/reflectlite.Swapper", "(internal/reflectlite.Value).Len"], unfollowed := true, recurses := true, apart := false }
def FnExactCountWithHintSaid : Prop := fnExactCountWithHintRow.holds Tryz.pinned (OpenSpec.ofChange fnExactCountWithHintSpec)

/-- ITS FALSE NEIGHBOUR: 'it returns false'. Refute it at one input. -/
def fnExactCountWithHintWrong : ChangeSpec := { name := "fnExactCountWithHint", fn := fun _ => fun
  | [d1, d2, d3] => { results := [.lit (.bool false)], args := [d1, d2, d3] }
  | _ => none }
def FnExactCountWithHintWrongFalsely : Prop := fnExactCountWithHintRow.holds Tryz.pinned (OpenSpec.ofChange fnExactCountWithHintWrong)

/-- 'laws.FnExactCountSolutions': WHATEVER THE INPUT: true; the input reads as it did. -/
def fnExactCountSolutionsSpec : ChangeSpec := { name := "fnExactCountSolutions", fn := fun _ => fun
  | [d1, d2] => { results := [.lit (.bool true)], args := [d1, d2] }
  | _ => none }
def fnExactCountSolutionsRow : OpenClaim := { program := "yteelmhmdnljjnaagreat", sum := "ce5a6c0631f60b67f185c2457dbdf3eeae46b4e7d0b5f7079133b5d06bd05acb", func := "loop.example/g03400/laws.FnExactCountSolutions", spec := "fnExactCountSolutions", inPlace := ["internal/reflectlite.ValueOf", "internal/reflectlite.Swapper", "(internal/reflectlite.Value).Len"], unfollowed := true, recurses := true, apart := false }
def FnExactCountSolutionsSaid : Prop := fnExactCountSolutionsRow.holds Tryz.pinned (OpenSpec.ofChange fnExactCountSolutionsSpec)

/-- ITS FALSE NEIGHBOUR: 'it returns false'. Refute it at one input. -/
def fnExactCountSolutionsWrong : ChangeSpec := { name := "fnExactCountSolutions", fn := fun _ => fun
  | [d1, d2] => { results := [.lit (.bool false)], args := [d1, d2] }
  | _ => none }
def FnExactCountSolutionsWrongFalsely : Prop := fnExactCountSolutionsRow.holds Tryz.pinned (OpenSpec.ofChange fnExactCountSolutionsWrong)

/-- 'laws.FnExactPuzzleSolutions': WHATEVER THE INPUT: true; the input reads as it did. -/
def fnExactPuzzleSolutionsSpec : ChangeSpec := { name := "fnExactPuzzleSolutions", fn := fun _ => fun
  | [d1, d2] => { results := [.lit (.bool true)], args := [d1, d2] }
  | _ => none }
def fnExactPuzzleSolutionsRow : OpenClaim := { program := "yteelmhmdnljjnaagreat", sum := "ce5a6c0631f60b67f185c2457dbdf3eeae46b4e7d0b5f7079133b5d06bd05acb", func := "loop.example/g03400/laws.FnExactPuzzleSolutions", spec := "fnExactPuzzleSolutions", inPlace := ["internal/reflectlite.ValueOf", "internal/reflectlite.Swapper", "(internal/reflectlite.Value).Len"], unfollowed := true, recurses := true, apart := false }
def FnExactPuzzleSolutionsSaid : Prop := fnExactPuzzleSolutionsRow.holds Tryz.pinned (OpenSpec.ofChange fnExactPuzzleSolutionsSpec)

/-- ITS FALSE NEIGHBOUR: 'it returns false'. Refute it at one input. -/
def fnExactPuzzleSolutionsWrong : ChangeSpec := { name := "fnExactPuzzleSolutions", fn := fun _ => fun
  | [d1, d2] => { results := [.lit (.bool false)], args := [d1, d2] }
  | _ => none }
def FnExactPuzzleSolutionsWrongFalsely : Prop := fnExactPuzzleSolutionsRow.holds Tryz.pinned (OpenSpec.ofChange fnExactPuzzleSolutionsWrong)

/- THE SECOND FORM. 'bulk': how many values and letters a reading holds, each counted each time it is reached (what is shared counts as often as it is met; a slice's spare places count too). A statement '..UptoSaid' is the law's where the arguments, and the package variables that the reading takes, are together of bulk at most 1048576: NARROWER than '..Said'. Prove '..Said' where nothing that the law and all that it calls make is longer than what came in: it says more and counts as full. Else prove '..UptoSaid'. A law counts once. -/
mutual
def uptoBulk {H : Type} : DataW H → Nat
  | .lit (.string bytes) => bytes.length + 1
  | .lit _ => 1
  | .nil => 1
  | .ptr d => uptoBulk d + 1
  | .slice elems spare => uptoBulkAll elems + uptoBulkAll spare + 1
  | .agg parts => uptoBulkAll parts + 1
  | .iface _ d => uptoBulk d + 1
  | .map entries => uptoBulkEntries entries + 1
  | .held _ => 1
def uptoBulkAll {H : Type} : List (DataW H) → Nat
  | [] => 0
  | d :: r => uptoBulk d + uptoBulkAll r
def uptoBulkEntries {H : Type} : List (Lit × DataW H) → Nat
  | [] => 0
  | x :: r => uptoBulkEntry x + uptoBulkEntries r
def uptoBulkEntry {H : Type} : Lit × DataW H → Nat
  | (.string bytes, d) => bytes.length + uptoBulk d + 1
  | (_, d) => uptoBulk d + 1
 end
def uptoSmall : (H : Type) → List (DataW H) → Bool := fun _ ds => decide (uptoBulkAll ds ≤ 1048576)
def OpenSpec.upto (s : _root_.Go.ChangeSpec) : _root_.Go.OpenSpec := { _root_.Go.OpenSpec.ofChange s with cond := some uptoSmall }

/-- 'laws.FnExactIsSolution', WHERE WHAT IT READS IS OF BULK AT MOST 1048576: true; the input reads as it did. -/
def fnExactIsSolutionUptoRow : OpenClaim := { program := "yteelmhmdnljjnaagreat", sum := "ce5a6c0631f60b67f185c2457dbdf3eeae46b4e7d0b5f7079133b5d06bd05acb", func := "loop.example/g03400/laws.FnExactIsSolution", spec := "fnExactIsSolution", inPlace := ["internal/reflectlite.ValueOf", "internal/reflectlite.Swapper", "(internal/reflectlite.Value).Len"], unfollowed := true, recurses := true, apart := false, narrowed := true }
def FnExactIsSolutionUptoSaid : Prop := fnExactIsSolutionUptoRow.holds Tryz.pinned (OpenSpec.upto fnExactIsSolutionSpec)

/-- 'laws.FnExactIsCovering', WHERE WHAT IT READS IS OF BULK AT MOST 1048576: true; the input reads as it did. -/
def fnExactIsCoveringUptoRow : OpenClaim := { program := "yteelmhmdnljjnaagreat", sum := "ce5a6c0631f60b67f185c2457dbdf3eeae46b4e7d0b5f7079133b5d06bd05acb", func := "loop.example/g03400/laws.FnExactIsCovering", spec := "fnExactIsCovering", inPlace := ["internal/reflectlite.ValueOf", "internal/reflectlite.Swapper", "(internal/reflectlite.Value).Len"], unfollowed := true, recurses := true, apart := false, narrowed := true }
def FnExactIsCoveringUptoSaid : Prop := fnExactIsCoveringUptoRow.holds Tryz.pinned (OpenSpec.upto fnExactIsCoveringSpec)

/-- 'laws.FnExactIsScattered', WHERE WHAT IT READS IS OF BULK AT MOST 1048576: true; the input reads as it did. -/
def fnExactIsScatteredUptoRow : OpenClaim := { program := "yteelmhmdnljjnaagreat", sum := "ce5a6c0631f60b67f185c2457dbdf3eeae46b4e7d0b5f7079133b5d06bd05acb", func := "loop.example/g03400/laws.FnExactIsScattered", spec := "fnExactIsScattered", inPlace := ["internal/reflectlite.ValueOf", "internal/reflectlite.Swapper", "(internal/reflectlite.Value).Len"], unfollowed := true, recurses := true, apart := false, narrowed := true }
def FnExactIsScatteredUptoSaid : Prop := fnExactIsScatteredUptoRow.holds Tryz.pinned (OpenSpec.upto fnExactIsScatteredSpec)

/-- 'laws.FnExactLargestScattered', WHERE WHAT IT READS IS OF BULK AT MOST 1048576: true; the input reads as it did. -/
def fnExactLargestScatteredUptoRow : OpenClaim := { program := "yteelmhmdnljjnaagreat", sum := "ce5a6c0631f60b67f185c2457dbdf3eeae46b4e7d0b5f7079133b5d06bd05acb", func := "loop.example/g03400/laws.FnExactLargestScattered", spec := "fnExactLargestScattered", inPlace := ["internal/reflectlite.ValueOf", "internal/reflectlite.Swapper", "(internal/reflectlite.Value).Len"], unfollowed := true, recurses := true, apart := false, narrowed := true }
def FnExactLargestScatteredUptoSaid : Prop := fnExactLargestScatteredUptoRow.holds Tryz.pinned (OpenSpec.upto fnExactLargestScatteredSpec)

/-- 'laws.FnExactCountWithHint', WHERE WHAT IT READS IS OF BULK AT MOST 1048576: true; the input reads as it did. -/
def fnExactCountWithHintUptoRow : OpenClaim := { program := "yteelmhmdnljjnaagreat", sum := "ce5a6c0631f60b67f185c2457dbdf3eeae46b4e7d0b5f7079133b5d06bd05acb", func := "loop.example/g03400/laws.FnExactCountWithHint", spec := "fnExactCountWithHint", inPlace := ["internal/reflectlite.ValueOf", "internal/reflectlite.Swapper", "(internal/reflectlite.Value).Len"], unfollowed := true, recurses := true, apart := false, narrowed := true }
def FnExactCountWithHintUptoSaid : Prop := fnExactCountWithHintUptoRow.holds Tryz.pinned (OpenSpec.upto fnExactCountWithHintSpec)

/-- 'laws.FnExactCountSolutions', WHERE WHAT IT READS IS OF BULK AT MOST 1048576: true; the input reads as it did. -/
def fnExactCountSolutionsUptoRow : OpenClaim := { program := "yteelmhmdnljjnaagreat", sum := "ce5a6c0631f60b67f185c2457dbdf3eeae46b4e7d0b5f7079133b5d06bd05acb", func := "loop.example/g03400/laws.FnExactCountSolutions", spec := "fnExactCountSolutions", inPlace := ["internal/reflectlite.ValueOf", "internal/reflectlite.Swapper", "(internal/reflectlite.Value).Len"], unfollowed := true, recurses := true, apart := false, narrowed := true }
def FnExactCountSolutionsUptoSaid : Prop := fnExactCountSolutionsUptoRow.holds Tryz.pinned (OpenSpec.upto fnExactCountSolutionsSpec)

/-- 'laws.FnExactPuzzleSolutions', WHERE WHAT IT READS IS OF BULK AT MOST 1048576: true; the input reads as it did. -/
def fnExactPuzzleSolutionsUptoRow : OpenClaim := { program := "yteelmhmdnljjnaagreat", sum := "ce5a6c0631f60b67f185c2457dbdf3eeae46b4e7d0b5f7079133b5d06bd05acb", func := "loop.example/g03400/laws.FnExactPuzzleSolutions", spec := "fnExactPuzzleSolutions", inPlace := ["internal/reflectlite.ValueOf", "internal/reflectlite.Swapper", "(internal/reflectlite.Value).Len"], unfollowed := true, recurses := true, apart := false, narrowed := true }
def FnExactPuzzleSolutionsUptoSaid : Prop := fnExactPuzzleSolutionsUptoRow.holds Tryz.pinned (OpenSpec.upto fnExactPuzzleSolutionsSpec)

end Rows
end Go.Proofs.YteelmhmdnljjnaaGreat
