/-
  No cell of these rows narrows 'for every input' (looked for: loops, veiled, ifaces, maps, wideKeys, modest, calm, conditions, laid).
  DERIVED. THE GIVEN ROWS OF THIS SEAT. 6 by the template 'for every input the law returns true; each argument reads behind the call as it read before'; 0 by the template 'total and deterministic' (their statements: YtagiifoejdlecaaTotals.lean).
  GIVEN WITH THE SEED: the statements are not yours to turn. If you find one false, say at which input.
  Laid BY PROGRAM, IN A SANDBOX (cutbox-rows.mjs): the forced cells as the released guide's own fill.sh prints them over the translation 2f78a25610bb0bdc… (all of the seat's roots in one cut). By AI agents, Wed Nov 11 2026. No macro, syntax, notation, axiom, sorry.
-/
import Derived.Test.YtagiifoejdlecaaChecked
import GoSem.Claim
import GoSem.ClaimJoined
import GoSem.ClaimMapViews
import Derived.JoinedTies
import Derived.KernelRfl
namespace Go.Proofs.Ytagiifoejdlecaa
/- THE CELL 'sum', in the pinned program and in every row, IS THE sha256 OF THE DUMP (.gsa) THAT YtagiifoejdlecaaProg.lean LOADS. Nothing in Lean hashes anything: it is a label: what it is worth is what the hold of that sum in a sandbox is worth. -/
noncomputable def Try.pinned : Pinned := { name := "ytagiifoejdlecaa", sum := "2f78a25610bb0bdc64eccad1fb4da38dac68d7af7348b7b243021d00b86967f3", checked := Try.checked }
namespace Rows
def none {H : Type} : Left H := { results := [], args := [] }

/-- 'laws.FnExactCountRowConvex': WHATEVER THE INPUT: true; the input reads as it did. -/
def fnExactCountRowConvexSpec : ChangeSpec := { name := "fnExactCountRowConvex", fn := fun _ => fun
  | [d] => { results := [.lit (.bool true)], args := [d] }
  | _ => none }
def fnExactCountRowConvexRow : OpenClaim := { program := "ytagiifoejdlecaa", sum := "2f78a25610bb0bdc64eccad1fb4da38dac68d7af7348b7b243021d00b86967f3", func := "loop.example/g03400/laws.FnExactCountRowConvex", spec := "fnExactCountRowConvex", apart := false }
def FnExactCountRowConvexSaid : Prop := fnExactCountRowConvexRow.holds Try.pinned (OpenSpec.ofChange fnExactCountRowConvexSpec)

/-- ITS FALSE NEIGHBOUR: 'it returns false'. Refute it at one input. -/
def fnExactCountRowConvexWrong : ChangeSpec := { name := "fnExactCountRowConvex", fn := fun _ => fun
  | [d] => { results := [.lit (.bool false)], args := [d] }
  | _ => none }
def FnExactCountRowConvexWrongFalsely : Prop := fnExactCountRowConvexRow.holds Try.pinned (OpenSpec.ofChange fnExactCountRowConvexWrong)

/-- 'laws.FnExactIsClosedWord': WHATEVER THE INPUT: true; the input reads as it did. -/
def fnExactIsClosedWordSpec : ChangeSpec := { name := "fnExactIsClosedWord", fn := fun _ => fun
  | [d] => { results := [.lit (.bool true)], args := [d] }
  | _ => none }
def fnExactIsClosedWordRow : OpenClaim := { program := "ytagiifoejdlecaa", sum := "2f78a25610bb0bdc64eccad1fb4da38dac68d7af7348b7b243021d00b86967f3", func := "loop.example/g03400/laws.FnExactIsClosedWord", spec := "fnExactIsClosedWord", apart := false }
def FnExactIsClosedWordSaid : Prop := fnExactIsClosedWordRow.holds Try.pinned (OpenSpec.ofChange fnExactIsClosedWordSpec)

/-- ITS FALSE NEIGHBOUR: 'it returns false'. Refute it at one input. -/
def fnExactIsClosedWordWrong : ChangeSpec := { name := "fnExactIsClosedWord", fn := fun _ => fun
  | [d] => { results := [.lit (.bool false)], args := [d] }
  | _ => none }
def FnExactIsClosedWordWrongFalsely : Prop := fnExactIsClosedWordRow.holds Try.pinned (OpenSpec.ofChange fnExactIsClosedWordWrong)

/-- 'laws.FnExactRollFaces': WHATEVER THE INPUT: true; the input reads as it did. -/
def fnExactRollFacesSpec : ChangeSpec := { name := "fnExactRollFaces", fn := fun _ => fun
  | [d1, d2] => { results := [.lit (.bool true)], args := [d1, d2] }
  | _ => none }
def fnExactRollFacesRow : OpenClaim := { program := "ytagiifoejdlecaa", sum := "2f78a25610bb0bdc64eccad1fb4da38dac68d7af7348b7b243021d00b86967f3", func := "loop.example/g03400/laws.FnExactRollFaces", spec := "fnExactRollFaces", apart := false }
def FnExactRollFacesSaid : Prop := fnExactRollFacesRow.holds Try.pinned (OpenSpec.ofChange fnExactRollFacesSpec)

/-- ITS FALSE NEIGHBOUR: 'it returns false'. Refute it at one input. -/
def fnExactRollFacesWrong : ChangeSpec := { name := "fnExactRollFaces", fn := fun _ => fun
  | [d1, d2] => { results := [.lit (.bool false)], args := [d1, d2] }
  | _ => none }
def FnExactRollFacesWrongFalsely : Prop := fnExactRollFacesRow.holds Try.pinned (OpenSpec.ofChange fnExactRollFacesWrong)

/-- 'laws.FnExactReverseWord': WHATEVER THE INPUT: true; the input reads as it did. -/
def fnExactReverseWordSpec : ChangeSpec := { name := "fnExactReverseWord", fn := fun _ => fun
  | [d] => { results := [.lit (.bool true)], args := [d] }
  | _ => none }
def fnExactReverseWordRow : OpenClaim := { program := "ytagiifoejdlecaa", sum := "2f78a25610bb0bdc64eccad1fb4da38dac68d7af7348b7b243021d00b86967f3", func := "loop.example/g03400/laws.FnExactReverseWord", spec := "fnExactReverseWord", apart := false }
def FnExactReverseWordSaid : Prop := fnExactReverseWordRow.holds Try.pinned (OpenSpec.ofChange fnExactReverseWordSpec)

/-- ITS FALSE NEIGHBOUR: 'it returns false'. Refute it at one input. -/
def fnExactReverseWordWrong : ChangeSpec := { name := "fnExactReverseWord", fn := fun _ => fun
  | [d] => { results := [.lit (.bool false)], args := [d] }
  | _ => none }
def FnExactReverseWordWrongFalsely : Prop := fnExactReverseWordRow.holds Try.pinned (OpenSpec.ofChange fnExactReverseWordWrong)

/-- 'laws.FnExactAreaOfWord': WHATEVER THE INPUT: true; the input reads as it did. -/
def fnExactAreaOfWordSpec : ChangeSpec := { name := "fnExactAreaOfWord", fn := fun _ => fun
  | [d] => { results := [.lit (.bool true)], args := [d] }
  | _ => none }
def fnExactAreaOfWordRow : OpenClaim := { program := "ytagiifoejdlecaa", sum := "2f78a25610bb0bdc64eccad1fb4da38dac68d7af7348b7b243021d00b86967f3", func := "loop.example/g03400/laws.FnExactAreaOfWord", spec := "fnExactAreaOfWord", apart := false }
def FnExactAreaOfWordSaid : Prop := fnExactAreaOfWordRow.holds Try.pinned (OpenSpec.ofChange fnExactAreaOfWordSpec)

/-- ITS FALSE NEIGHBOUR: 'it returns false'. Refute it at one input. -/
def fnExactAreaOfWordWrong : ChangeSpec := { name := "fnExactAreaOfWord", fn := fun _ => fun
  | [d] => { results := [.lit (.bool false)], args := [d] }
  | _ => none }
def FnExactAreaOfWordWrongFalsely : Prop := fnExactAreaOfWordRow.holds Try.pinned (OpenSpec.ofChange fnExactAreaOfWordWrong)

/-- 'laws.FnExactIsGrowth': WHATEVER THE INPUT: true; the input reads as it did. -/
def fnExactIsGrowthSpec : ChangeSpec := { name := "fnExactIsGrowth", fn := fun _ => fun
  | [d] => { results := [.lit (.bool true)], args := [d] }
  | _ => none }
def fnExactIsGrowthRow : OpenClaim := { program := "ytagiifoejdlecaa", sum := "2f78a25610bb0bdc64eccad1fb4da38dac68d7af7348b7b243021d00b86967f3", func := "loop.example/g03400/laws.FnExactIsGrowth", spec := "fnExactIsGrowth", apart := false }
def FnExactIsGrowthSaid : Prop := fnExactIsGrowthRow.holds Try.pinned (OpenSpec.ofChange fnExactIsGrowthSpec)

/-- ITS FALSE NEIGHBOUR: 'it returns false'. Refute it at one input. -/
def fnExactIsGrowthWrong : ChangeSpec := { name := "fnExactIsGrowth", fn := fun _ => fun
  | [d] => { results := [.lit (.bool false)], args := [d] }
  | _ => none }
def FnExactIsGrowthWrongFalsely : Prop := fnExactIsGrowthRow.holds Try.pinned (OpenSpec.ofChange fnExactIsGrowthWrong)

/- THE SECOND FORM. 'bulk': how many values and letters a reading holds, each counted each time it is reached (what is shared counts as often as it is met; a slice's spare places count too). A statement '..UptoSaid' is the law's where the arguments, and the package variables that the reading takes, are together of bulk at most 1048576: NARROWER than '..Said'. Prove '..Said' where nothing that the law and all that it calls make is longer than what came in: it says more and counts as full. Else prove '..UptoSaid'. A law counts once. -/
mutual
def uptoBulk {H : Type} : DataW H → Nat
  | .lit (.string bytes) => bytes.length + 1
  | .lit _ => 1
  | .nil => 1
  | .ptr d => uptoBulk d + 1
  | .slice elems spare => uptoBulkAll elems + uptoBulkAll spare + 1
  | .agg parts => uptoBulkAll parts + 1
  | .iface _ d => uptoBulk d + 1
  | .map entries => uptoBulkEntries entries + 1
  | .held _ => 1
def uptoBulkAll {H : Type} : List (DataW H) → Nat
  | [] => 0
  | d :: r => uptoBulk d + uptoBulkAll r
def uptoBulkEntries {H : Type} : List (Lit × DataW H) → Nat
  | [] => 0
  | x :: r => uptoBulkEntry x + uptoBulkEntries r
def uptoBulkEntry {H : Type} : Lit × DataW H → Nat
  | (.string bytes, d) => bytes.length + uptoBulk d + 1
  | (_, d) => uptoBulk d + 1
 end
def uptoSmall : (H : Type) → List (DataW H) → Bool := fun _ ds => decide (uptoBulkAll ds ≤ 1048576)
def OpenSpec.upto (s : _root_.Go.ChangeSpec) : _root_.Go.OpenSpec := { _root_.Go.OpenSpec.ofChange s with cond := some uptoSmall }

/-- 'laws.FnExactCountRowConvex', WHERE WHAT IT READS IS OF BULK AT MOST 1048576: true; the input reads as it did. -/
def fnExactCountRowConvexUptoRow : OpenClaim := { program := "ytagiifoejdlecaa", sum := "2f78a25610bb0bdc64eccad1fb4da38dac68d7af7348b7b243021d00b86967f3", func := "loop.example/g03400/laws.FnExactCountRowConvex", spec := "fnExactCountRowConvex", apart := false, narrowed := true }
def FnExactCountRowConvexUptoSaid : Prop := fnExactCountRowConvexUptoRow.holds Try.pinned (OpenSpec.upto fnExactCountRowConvexSpec)

/-- 'laws.FnExactIsClosedWord', WHERE WHAT IT READS IS OF BULK AT MOST 1048576: true; the input reads as it did. -/
def fnExactIsClosedWordUptoRow : OpenClaim := { program := "ytagiifoejdlecaa", sum := "2f78a25610bb0bdc64eccad1fb4da38dac68d7af7348b7b243021d00b86967f3", func := "loop.example/g03400/laws.FnExactIsClosedWord", spec := "fnExactIsClosedWord", apart := false, narrowed := true }
def FnExactIsClosedWordUptoSaid : Prop := fnExactIsClosedWordUptoRow.holds Try.pinned (OpenSpec.upto fnExactIsClosedWordSpec)

/-- 'laws.FnExactRollFaces', WHERE WHAT IT READS IS OF BULK AT MOST 1048576: true; the input reads as it did. -/
def fnExactRollFacesUptoRow : OpenClaim := { program := "ytagiifoejdlecaa", sum := "2f78a25610bb0bdc64eccad1fb4da38dac68d7af7348b7b243021d00b86967f3", func := "loop.example/g03400/laws.FnExactRollFaces", spec := "fnExactRollFaces", apart := false, narrowed := true }
def FnExactRollFacesUptoSaid : Prop := fnExactRollFacesUptoRow.holds Try.pinned (OpenSpec.upto fnExactRollFacesSpec)

/-- 'laws.FnExactReverseWord', WHERE WHAT IT READS IS OF BULK AT MOST 1048576: true; the input reads as it did. -/
def fnExactReverseWordUptoRow : OpenClaim := { program := "ytagiifoejdlecaa", sum := "2f78a25610bb0bdc64eccad1fb4da38dac68d7af7348b7b243021d00b86967f3", func := "loop.example/g03400/laws.FnExactReverseWord", spec := "fnExactReverseWord", apart := false, narrowed := true }
def FnExactReverseWordUptoSaid : Prop := fnExactReverseWordUptoRow.holds Try.pinned (OpenSpec.upto fnExactReverseWordSpec)

/-- 'laws.FnExactAreaOfWord', WHERE WHAT IT READS IS OF BULK AT MOST 1048576: true; the input reads as it did. -/
def fnExactAreaOfWordUptoRow : OpenClaim := { program := "ytagiifoejdlecaa", sum := "2f78a25610bb0bdc64eccad1fb4da38dac68d7af7348b7b243021d00b86967f3", func := "loop.example/g03400/laws.FnExactAreaOfWord", spec := "fnExactAreaOfWord", apart := false, narrowed := true }
def FnExactAreaOfWordUptoSaid : Prop := fnExactAreaOfWordUptoRow.holds Try.pinned (OpenSpec.upto fnExactAreaOfWordSpec)

/-- 'laws.FnExactIsGrowth', WHERE WHAT IT READS IS OF BULK AT MOST 1048576: true; the input reads as it did. -/
def fnExactIsGrowthUptoRow : OpenClaim := { program := "ytagiifoejdlecaa", sum := "2f78a25610bb0bdc64eccad1fb4da38dac68d7af7348b7b243021d00b86967f3", func := "loop.example/g03400/laws.FnExactIsGrowth", spec := "fnExactIsGrowth", apart := false, narrowed := true }
def FnExactIsGrowthUptoSaid : Prop := fnExactIsGrowthUptoRow.holds Try.pinned (OpenSpec.upto fnExactIsGrowthSpec)

end Rows
end Go.Proofs.Ytagiifoejdlecaa
