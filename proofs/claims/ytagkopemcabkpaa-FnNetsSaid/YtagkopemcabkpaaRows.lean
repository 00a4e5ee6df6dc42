/-
  No cell of these rows narrows 'for every input' (looked for: loops, veiled, ifaces, maps, wideKeys, modest, calm, conditions, laid).
  DERIVED. THE GIVEN ROWS OF THIS SEAT. 2 by the template 'for every input the law returns true; each argument reads behind the call as it read before'; 0 by the template 'total and deterministic' (their statements: YtagkopemcabkpaaTotals.lean).
  GIVEN WITH THE SEED: the statements are not yours to turn. If you find one false, say at which input.
  Laid BY PROGRAM, IN A SANDBOX (cutbox-rows.mjs): the forced cells as the released guide's own fill.sh prints them over the translation 3c02d67412ca3b96… (all of the seat's roots in one cut). By AI agents, Wed Nov 11 2026. No macro, syntax, notation, axiom, sorry.
-/
import Derived.Test.YtagkopemcabkpaaChecked
import GoSem.Claim
import GoSem.ClaimJoined
import GoSem.ClaimMapViews
import Derived.JoinedTies
import Derived.KernelRfl
namespace Go.Proofs.Ytagkopemcabkpaa
/- THE CELL 'sum', in the pinned program and in every row, IS THE sha256 OF THE DUMP (.gsa) THAT YtagkopemcabkpaaProg.lean LOADS. Nothing in Lean hashes anything: it is a label: what it is worth is what the hold of that sum in a sandbox is worth. -/
noncomputable def Try.pinned : Pinned := { name := "ytagkopemcabkpaa", sum := "3c02d67412ca3b96de446d6dfd0c44362c2a82b83f5e70c6463c9ff7d9e21e72", checked := Try.checked }
namespace Rows
def none {H : Type} : Left H := { results := [], args := [] }

/-- 'laws.FnNets': WHATEVER THE INPUT: true; the input reads as it did. -/
def fnNetsSpec : ChangeSpec := { name := "fnNets", fn := fun _ => fun
  | [d] => { results := [.lit (.bool true)], args := [d] }
  | _ => none }
def fnNetsRow : OpenClaim := { program := "ytagkopemcabkpaa", sum := "3c02d67412ca3b96de446d6dfd0c44362c2a82b83f5e70c6463c9ff7d9e21e72", func := "loop.example/g03400/laws.FnNets", spec := "fnNets", recurses := true, plainKeys := false, apart := false }
def FnNetsSaid : Prop := fnNetsRow.holds Try.pinned (OpenSpec.ofChange fnNetsSpec)

/-- ITS FALSE NEIGHBOUR: 'it returns false'. Refute it at one input. -/
def fnNetsWrong : ChangeSpec := { name := "fnNets", fn := fun _ => fun
  | [d] => { results := [.lit (.bool false)], args := [d] }
  | _ => none }
def FnNetsWrongFalsely : Prop := fnNetsRow.holds Try.pinned (OpenSpec.ofChange fnNetsWrong)

/-- 'laws.FnGrowth': WHATEVER THE INPUT: true; the input reads as it did. -/
def fnGrowthSpec : ChangeSpec := { name := "fnGrowth", fn := fun _ => fun
  | [d] => { results := [.lit (.bool true)], args := [d] }
  | _ => none }
def fnGrowthRow : OpenClaim := { program := "ytagkopemcabkpaa", sum := "3c02d67412ca3b96de446d6dfd0c44362c2a82b83f5e70c6463c9ff7d9e21e72", func := "loop.example/g03400/laws.FnGrowth", spec := "fnGrowth", inPlace := ["internal/reflectlite.ValueOf", "internal/reflectlite.Swapper", "(internal/reflectlite.Value).Len"], unfollowed := true, recurses := true, plainKeys := false, apart := false }
def FnGrowthSaid : Prop := fnGrowthRow.holds Try.pinned (OpenSpec.ofChange fnGrowthSpec)

/-- ITS FALSE NEIGHBOUR: 'it returns false'. Refute it at one input. -/
def fnGrowthWrong : ChangeSpec := { name := "fnGrowth", fn := fun _ => fun
  | [d] => { results := [.lit (.bool false)], args := [d] }
  | _ => none }
def FnGrowthWrongFalsely : Prop := fnGrowthRow.holds Try.pinned (OpenSpec.ofChange fnGrowthWrong)

/- THE SECOND FORM. 'bulk': how many values and letters a reading holds, each counted each time it is reached (what is shared counts as often as it is met; a slice's spare places count too). A statement '..UptoSaid' is the law's where the arguments, and the package variables that the reading takes, are together of bulk at most 1048576: NARROWER than '..Said'. Prove '..Said' where nothing that the law and all that it calls make is longer than what came in: it says more and counts as full. Else prove '..UptoSaid'. A law counts once. -/
mutual
def uptoBulk {H : Type} : DataW H → Nat
  | .lit (.string bytes) => bytes.length + 1
  | .lit _ => 1
  | .nil => 1
  | .ptr d => uptoBulk d + 1
  | .slice elems spare => uptoBulkAll elems + uptoBulkAll spare + 1
  | .agg parts => uptoBulkAll parts + 1
  | .iface _ d => uptoBulk d + 1
  | .map entries => uptoBulkEntries entries + 1
  | .held _ => 1
def uptoBulkAll {H : Type} : List (DataW H) → Nat
  | [] => 0
  | d :: r => uptoBulk d + uptoBulkAll r
def uptoBulkEntries {H : Type} : List (Lit × DataW H) → Nat
  | [] => 0
  | x :: r => uptoBulkEntry x + uptoBulkEntries r
def uptoBulkEntry {H : Type} : Lit × DataW H → Nat
  | (.string bytes, d) => bytes.length + uptoBulk d + 1
  | (_, d) => uptoBulk d + 1
 end
def uptoSmall : (H : Type) → List (DataW H) → Bool := fun _ ds => decide (uptoBulkAll ds ≤ 1048576)
def OpenSpec.upto (s : _root_.Go.ChangeSpec) : _root_.Go.OpenSpec := { _root_.Go.OpenSpec.ofChange s with cond := some uptoSmall }

/-- 'laws.FnNets', WHERE WHAT IT READS IS OF BULK AT MOST 1048576: true; the input reads as it did. -/
def fnNetsUptoRow : OpenClaim := { program := "ytagkopemcabkpaa", sum := "3c02d67412ca3b96de446d6dfd0c44362c2a82b83f5e70c6463c9ff7d9e21e72", func := "loop.example/g03400/laws.FnNets", spec := "fnNets", recurses := true, plainKeys := false, apart := false, narrowed := true }
def FnNetsUptoSaid : Prop := fnNetsUptoRow.holds Try.pinned (OpenSpec.upto fnNetsSpec)

/-- 'laws.FnGrowth', WHERE WHAT IT READS IS OF BULK AT MOST 1048576: true; the input reads as it did. -/
def fnGrowthUptoRow : OpenClaim := { program := "ytagkopemcabkpaa", sum := "3c02d67412ca3b96de446d6dfd0c44362c2a82b83f5e70c6463c9ff7d9e21e72", func := "loop.example/g03400/laws.FnGrowth", spec := "fnGrowth", inPlace := ["internal/reflectlite.ValueOf", "internal/reflectlite.Swapper", "(internal/reflectlite.Value).Len"], unfollowed := true, recurses := true, plainKeys := false, apart := false, narrowed := true }
def FnGrowthUptoSaid : Prop := fnGrowthUptoRow.holds Try.pinned (OpenSpec.upto fnGrowthSpec)

end Rows
end Go.Proofs.Ytagkopemcabkpaa
