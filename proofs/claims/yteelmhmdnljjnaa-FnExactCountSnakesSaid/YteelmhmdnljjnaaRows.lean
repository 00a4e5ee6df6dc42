/-
  No cell of these rows narrows 'for every input' (looked for: loops, veiled, ifaces, maps, wideKeys, modest, calm, conditions, laid).
  DERIVED. THE GIVEN ROWS OF THIS SEAT. 3 by the template 'for every input the law returns true; each argument reads behind the call as it read before'; 0 by the template 'total and deterministic' (their statements: YteelmhmdnljjnaaTotals.lean).
  GIVEN WITH THE SEED: the statements are not yours to turn. If you find one false, say at which input.
  Laid BY PROGRAM, IN A SANDBOX (cutbox-rows.mjs): the forced cells as the released guide's own fill.sh prints them over the translation 8ee7cbd8f54b1461… (all of the seat's roots in one cut). By AI agents, Wed Nov 11 2026. No macro, syntax, notation, axiom, sorry.
-/
import Derived.Test.YteelmhmdnljjnaaChecked
import GoSem.Claim
import GoSem.ClaimJoined
import GoSem.ClaimMapViews
import Derived.JoinedTies
import Derived.KernelRfl
namespace Go.Proofs.Yteelmhmdnljjnaa
/- THE CELL 'sum', in the pinned program and in every row, IS THE sha256 OF THE DUMP (.gsa) THAT YteelmhmdnljjnaaProg.lean LOADS. Nothing in Lean hashes anything: it is a label: what it is worth is what the hold of that sum in a sandbox is worth. -/
noncomputable def Try.pinned : Pinned := { name := "yteelmhmdnljjnaa", sum := "8ee7cbd8f54b14616196cd1cba9cdc64e4be00f1e6f5c11febe31965f7d0e651", checked := Try.checked }
namespace Rows
def none {H : Type} : Left H := { results := [], args := [] }

/-- 'laws.FnExactPerimeterTable': WHATEVER THE INPUT: true; the input reads as it did. -/
def fnExactPerimeterTableSpec : ChangeSpec := { name := "fnExactPerimeterTable", fn := fun _ => fun
  | [d] => { results := [.lit (.bool true)], args := [d] }
  | _ => none }
def fnExactPerimeterTableRow : OpenClaim := { program := "yteelmhmdnljjnaa", sum := "8ee7cbd8f54b14616196cd1cba9cdc64e4be00f1e6f5c11febe31965f7d0e651", func := "loop.example/g03400/laws.FnExactPerimeterTable", spec := "fnExactPerimeterTable", inPlace := ["internal/reflectlite.ValueOf", "internal/reflectlite.Swapper", "(internal/reflectlite.Value).Len"], unfollowed := true, recurses := true, apart := false }
def FnExactPerimeterTableSaid : Prop := fnExactPerimeterTableRow.holds Try.pinned (OpenSpec.ofChange fnExactPerimeterTableSpec)

/-- ITS FALSE NEIGHBOUR: 'it returns false'. Refute it at one input. -/
def fnExactPerimeterTableWrong : ChangeSpec := { name := "fnExactPerimeterTable", fn := fun _ => fun
  | [d] => { results := [.lit (.bool false)], args := [d] }
  | _ => none }
def FnExactPerimeterTableWrongFalsely : Prop := fnExactPerimeterTableRow.holds Try.pinned (OpenSpec.ofChange fnExactPerimeterTableWrong)

/-- 'laws.FnExactHoleTable': WHATEVER THE INPUT: true; the input reads as it did. -/
def fnExactHoleTableSpec : ChangeSpec := { name := "fnExactHoleTable", fn := fun _ => fun
  | [d] => { results := [.lit (.bool true)], args := [d] }
  | _ => none }
def fnExactHoleTableRow : OpenClaim := { program := "yteelmhmdnljjnaa", sum := "8ee7cbd8f54b14616196cd1cba9cdc64e4be00f1e6f5c11febe31965f7d0e651", func := "loop.example/g03400/laws.FnExactHoleTable", spec := "fnExactHoleTable", inPlace := ["internal/reflectlite.ValueOf", "internal/reflectlite.Swapper", "(internal/reflectlite.Value).Len"], unfollowed := true, recurses := true, apart := false }
def FnExactHoleTableSaid : Prop := fnExactHoleTableRow.holds Try.pinned (OpenSpec.ofChange fnExactHoleTableSpec)

/-- ITS FALSE NEIGHBOUR: 'it returns false'. Refute it at one input. -/
def fnExactHoleTableWrong : ChangeSpec := { name := "fnExactHoleTable", fn := fun _ => fun
  | [d] => { results := [.lit (.bool false)], args := [d] }
  | _ => none }
def FnExactHoleTableWrongFalsely : Prop := fnExactHoleTableRow.holds Try.pinned (OpenSpec.ofChange fnExactHoleTableWrong)

/-- 'laws.FnExactCountSnakes': WHATEVER THE INPUT: true; the input reads as it did. -/
def fnExactCountSnakesSpec : ChangeSpec := { name := "fnExactCountSnakes", fn := fun _ => fun
  | [d] => { results := [.lit (.bool true)], args := [d] }
  | _ => none }
def fnExactCountSnakesRow : OpenClaim := { program := "yteelmhmdnljjnaa", sum := "8ee7cbd8f54b14616196cd1cba9cdc64e4be00f1e6f5c11febe31965f7d0e651", func := "loop.example/g03400/laws.FnExactCountSnakes", spec := "fnExactCountSnakes", inPlace := ["internal/reflectlite.ValueOf", "internal/reflectlite.Swapper", "(internal/reflectlite.Value).Len"], unfollowed := true, recurses := true, apart := false }
def FnExactCountSnakesSaid : Prop := fnExactCountSnakesRow.holds Try.pinned (OpenSpec.ofChange fnExactCountSnakesSpec)

/-- ITS FALSE NEIGHBOUR: 'it returns false'. Refute it at one input. -/
def fnExactCountSnakesWrong : ChangeSpec := { name := "fnExactCountSnakes", fn := fun _ => fun
  | [d] => { results := [.lit (.bool false)], args := [d] }
  | _ => none }
def FnExactCountSnakesWrongFalsely : Prop := fnExactCountSnakesRow.holds Try.pinned (OpenSpec.ofChange fnExactCountSnakesWrong)

/- THE SECOND FORM. 'bulk': how many values and letters a reading holds, each counted each time it is reached (what is shared counts as often as it is met; a slice's spare places count too). A statement '..UptoSaid' is the law's where the arguments, and the package variables that the reading takes, are together of bulk at most 1048576: NARROWER than '..Said'. Prove '..Said' where nothing that the law and all that it calls make is longer than what came in: it says more and counts as full. Else prove '..UptoSaid'. A law counts once. -/
mutual
def uptoBulk {H : Type} : DataW H → Nat
  | .lit (.string bytes) => bytes.length + 1
  | .lit _ => 1
  | .nil => 1
  | .ptr d => uptoBulk d + 1
  | .slice elems spare => uptoBulkAll elems + uptoBulkAll spare + 1
  | .agg parts => uptoBulkAll parts + 1
  | .iface _ d => uptoBulk d + 1
  | .map entries => uptoBulkEntries entries + 1
  | .held _ => 1
def uptoBulkAll {H : Type} : List (DataW H) → Nat
  | [] => 0
  | d :: r => uptoBulk d + uptoBulkAll r
def uptoBulkEntries {H : Type} : List (Lit × DataW H) → Nat
  | [] => 0
  | x :: r => uptoBulkEntry x + uptoBulkEntries r
def uptoBulkEntry {H : Type} : Lit × DataW H → Nat
  | (.string bytes, d) => bytes.length + uptoBulk d + 1
  | (_, d) => uptoBulk d + 1
 end
def uptoSmall : (H : Type) → List (DataW H) → Bool := fun _ ds => decide (uptoBulkAll ds ≤ 1048576)
def OpenSpec.upto (s : _root_.Go.ChangeSpec) : _root_.Go.OpenSpec := { _root_.Go.OpenSpec.ofChange s with cond := some uptoSmall }

/-- 'laws.FnExactPerimeterTable', WHERE WHAT IT READS IS OF BULK AT MOST 1048576: true; the input reads as it did. -/
def fnExactPerimeterTableUptoRow : OpenClaim := { program := "yteelmhmdnljjnaa", sum := "8ee7cbd8f54b14616196cd1cba9cdc64e4be00f1e6f5c11febe31965f7d0e651", func := "loop.example/g03400/laws.FnExactPerimeterTable", spec := "fnExactPerimeterTable", inPlace := ["internal/reflectlite.ValueOf", "internal/reflectlite.Swapper", "(internal/reflectlite.Value).Len"], unfollowed := true, recurses := true, apart := false, narrowed := true }
def FnExactPerimeterTableUptoSaid : Prop := fnExactPerimeterTableUptoRow.holds Try.pinned (OpenSpec.upto fnExactPerimeterTableSpec)

/-- 'laws.FnExactHoleTable', WHERE WHAT IT READS IS OF BULK AT MOST 1048576: true; the input reads as it did. -/
def fnExactHoleTableUptoRow : OpenClaim := { program := "yteelmhmdnljjnaa", sum := "8ee7cbd8f54b14616196cd1cba9cdc64e4be00f1e6f5c11febe31965f7d0e651", func := "loop.example/g03400/laws.FnExactHoleTable", spec := "fnExactHoleTable", inPlace := ["internal/reflectlite.ValueOf", "internal/reflectlite.Swapper", "(internal/reflectlite.Value).Len"], unfollowed := true, recurses := true, apart := false, narrowed := true }
def FnExactHoleTableUptoSaid : Prop := fnExactHoleTableUptoRow.holds Try.pinned (OpenSpec.upto fnExactHoleTableSpec)

/-- 'laws.FnExactCountSnakes', WHERE WHAT IT READS IS OF BULK AT MOST 1048576: true; the input reads as it did. -/
def fnExactCountSnakesUptoRow : OpenClaim := { program := "yteelmhmdnljjnaa", sum := "8ee7cbd8f54b14616196cd1cba9cdc64e4be00f1e6f5c11febe31965f7d0e651", func := "loop.example/g03400/laws.FnExactCountSnakes", spec := "fnExactCountSnakes", inPlace := ["internal/reflectlite.ValueOf", "internal/reflectlite.Swapper", "(internal/reflectlite.Value).Len"], unfollowed := true, recurses := true, apart := false, narrowed := true }
def FnExactCountSnakesUptoSaid : Prop := fnExactCountSnakesUptoRow.holds Try.pinned (OpenSpec.upto fnExactCountSnakesSpec)

end Rows
end Go.Proofs.Yteelmhmdnljjnaa
