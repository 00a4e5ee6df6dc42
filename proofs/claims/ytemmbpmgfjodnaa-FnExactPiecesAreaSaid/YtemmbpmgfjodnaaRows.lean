/-
  No cell of these rows narrows 'for every input' (looked for: loops, veiled, ifaces, maps, wideKeys, modest, calm, conditions, laid).
  DERIVED. THE GIVEN ROWS OF THIS SEAT. 12 by the template 'for every input the law returns true; each argument reads behind the call as it read before'; 0 by the template 'total and deterministic' (their statements: YtemmbpmgfjodnaaTotals.lean).
  GIVEN WITH THE SEED: the statements are not yours to turn. If you find one false, say at which input.
  Laid BY PROGRAM, IN A SANDBOX (cutbox-rows.mjs): the forced cells as the released guide's own fill.sh prints them over the translation 268bb7acc90bafa6… (all of the seat's roots in one cut). By AI agents, Wed Nov 11 2026. No macro, syntax, notation, axiom, sorry.
-/
import Derived.Test.YtemmbpmgfjodnaaChecked
import GoSem.Claim
import GoSem.ClaimJoined
import GoSem.ClaimMapViews
import Derived.JoinedTies
import Derived.KernelRfl
namespace Go.Proofs.Ytemmbpmgfjodnaa
/- THE CELL 'sum', in the pinned program and in every row, IS THE sha256 OF THE DUMP (.gsa) THAT YtemmbpmgfjodnaaProg.lean LOADS. Nothing in Lean hashes anything: it is a label: what it is worth is what the hold of that sum in a sandbox is worth. -/
noncomputable def Try.pinned : Pinned := { name := "ytemmbpmgfjodnaa", sum := "268bb7acc90bafa614ca17ffbef086b397d06a0aee9b8d610435ce01d81911a8", checked := Try.checked }
namespace Rows
def none {H : Type} : Left H := { results := [], args := [] }

/-- 'laws.FnExactTurnsOf': WHATEVER THE INPUT: true; the input reads as it did. -/
def fnExactTurnsOfSpec : ChangeSpec := { name := "fnExactTurnsOf", fn := fun _ => fun
  | [d] => { results := [.lit (.bool true)], args := [d] }
  | _ => none }
def fnExactTurnsOfRow : OpenClaim := { program := "ytemmbpmgfjodnaa", sum := "268bb7acc90bafa614ca17ffbef086b397d06a0aee9b8d610435ce01d81911a8", func := "loop.example/g03400/laws.FnExactTurnsOf", spec := "fnExactTurnsOf", plainKeys := false, apart := false }
def FnExactTurnsOfSaid : Prop := fnExactTurnsOfRow.holds Try.pinned (OpenSpec.ofChange fnExactTurnsOfSpec)

/-- ITS FALSE NEIGHBOUR: 'it returns false'. Refute it at one input. -/
def fnExactTurnsOfWrong : ChangeSpec := { name := "fnExactTurnsOf", fn := fun _ => fun
  | [d] => { results := [.lit (.bool false)], args := [d] }
  | _ => none }
def FnExactTurnsOfWrongFalsely : Prop := fnExactTurnsOfRow.holds Try.pinned (OpenSpec.ofChange fnExactTurnsOfWrong)

/-- 'laws.FnExactPiecesArea': WHATEVER THE INPUT: true; the input reads as it did. -/
def fnExactPiecesAreaSpec : ChangeSpec := { name := "fnExactPiecesArea", fn := fun _ => fun
  | [d] => { results := [.lit (.bool true)], args := [d] }
  | _ => none }
def fnExactPiecesAreaRow : OpenClaim := { program := "ytemmbpmgfjodnaa", sum := "268bb7acc90bafa614ca17ffbef086b397d06a0aee9b8d610435ce01d81911a8", func := "loop.example/g03400/laws.FnExactPiecesArea", spec := "fnExactPiecesArea", plainKeys := false, apart := false }
def FnExactPiecesAreaSaid : Prop := fnExactPiecesAreaRow.holds Try.pinned (OpenSpec.ofChange fnExactPiecesAreaSpec)

/-- ITS FALSE NEIGHBOUR: 'it returns false'. Refute it at one input. -/
def fnExactPiecesAreaWrong : ChangeSpec := { name := "fnExactPiecesArea", fn := fun _ => fun
  | [d] => { results := [.lit (.bool false)], args := [d] }
  | _ => none }
def FnExactPiecesAreaWrongFalsely : Prop := fnExactPiecesAreaRow.holds Try.pinned (OpenSpec.ofChange fnExactPiecesAreaWrong)

/-- 'laws.FnExactEndsOf': WHATEVER THE INPUT: true; the input reads as it did. -/
def fnExactEndsOfSpec : ChangeSpec := { name := "fnExactEndsOf", fn := fun _ => fun
  | [d] => { results := [.lit (.bool true)], args := [d] }
  | _ => none }
def fnExactEndsOfRow : OpenClaim := { program := "ytemmbpmgfjodnaa", sum := "268bb7acc90bafa614ca17ffbef086b397d06a0aee9b8d610435ce01d81911a8", func := "loop.example/g03400/laws.FnExactEndsOf", spec := "fnExactEndsOf", plainKeys := false, apart := false }
def FnExactEndsOfSaid : Prop := fnExactEndsOfRow.holds Try.pinned (OpenSpec.ofChange fnExactEndsOfSpec)

/-- ITS FALSE NEIGHBOUR: 'it returns false'. Refute it at one input. -/
def fnExactEndsOfWrong : ChangeSpec := { name := "fnExactEndsOf", fn := fun _ => fun
  | [d] => { results := [.lit (.bool false)], args := [d] }
  | _ => none }
def FnExactEndsOfWrongFalsely : Prop := fnExactEndsOfRow.holds Try.pinned (OpenSpec.ofChange fnExactEndsOfWrong)

/-- 'laws.FnExactIsSnake': WHATEVER THE INPUT: true; the input reads as it did. -/
def fnExactIsSnakeSpec : ChangeSpec := { name := "fnExactIsSnake", fn := fun _ => fun
  | [d] => { results := [.lit (.bool true)], args := [d] }
  | _ => none }
def fnExactIsSnakeRow : OpenClaim := { program := "ytemmbpmgfjodnaa", sum := "268bb7acc90bafa614ca17ffbef086b397d06a0aee9b8d610435ce01d81911a8", func := "loop.example/g03400/laws.FnExactIsSnake", spec := "fnExactIsSnake", plainKeys := false, apart := false }
def FnExactIsSnakeSaid : Prop := fnExactIsSnakeRow.holds Try.pinned (OpenSpec.ofChange fnExactIsSnakeSpec)

/-- ITS FALSE NEIGHBOUR: 'it returns false'. Refute it at one input. -/
def fnExactIsSnakeWrong : ChangeSpec := { name := "fnExactIsSnake", fn := fun _ => fun
  | [d] => { results := [.lit (.bool false)], args := [d] }
  | _ => none }
def FnExactIsSnakeWrongFalsely : Prop := fnExactIsSnakeRow.holds Try.pinned (OpenSpec.ofChange fnExactIsSnakeWrong)

/-- 'laws.FnExactGrowthSteps': WHATEVER THE INPUT: true; the input reads as it did. -/
def fnExactGrowthStepsSpec : ChangeSpec := { name := "fnExactGrowthSteps", fn := fun _ => fun
  | [d] => { results := [.lit (.bool true)], args := [d] }
  | _ => none }
def fnExactGrowthStepsRow : OpenClaim := { program := "ytemmbpmgfjodnaa", sum := "268bb7acc90bafa614ca17ffbef086b397d06a0aee9b8d610435ce01d81911a8", func := "loop.example/g03400/laws.FnExactGrowthSteps", spec := "fnExactGrowthSteps", plainKeys := false, apart := false }
def FnExactGrowthStepsSaid : Prop := fnExactGrowthStepsRow.holds Try.pinned (OpenSpec.ofChange fnExactGrowthStepsSpec)

/-- ITS FALSE NEIGHBOUR: 'it returns false'. Refute it at one input. -/
def fnExactGrowthStepsWrong : ChangeSpec := { name := "fnExactGrowthSteps", fn := fun _ => fun
  | [d] => { results := [.lit (.bool false)], args := [d] }
  | _ => none }
def FnExactGrowthStepsWrongFalsely : Prop := fnExactGrowthStepsRow.holds Try.pinned (OpenSpec.ofChange fnExactGrowthStepsWrong)

/-- 'laws.FnExactFoldsFlat': WHATEVER THE INPUT: true; the input reads as it did. -/
def fnExactFoldsFlatSpec : ChangeSpec := { name := "fnExactFoldsFlat", fn := fun _ => fun
  | [d] => { results := [.lit (.bool true)], args := [d] }
  | _ => none }
def fnExactFoldsFlatRow : OpenClaim := { program := "ytemmbpmgfjodnaa", sum := "268bb7acc90bafa614ca17ffbef086b397d06a0aee9b8d610435ce01d81911a8", func := "loop.example/g03400/laws.FnExactFoldsFlat", spec := "fnExactFoldsFlat", plainKeys := false, apart := false }
def FnExactFoldsFlatSaid : Prop := fnExactFoldsFlatRow.holds Try.pinned (OpenSpec.ofChange fnExactFoldsFlatSpec)

/-- ITS FALSE NEIGHBOUR: 'it returns false'. Refute it at one input. -/
def fnExactFoldsFlatWrong : ChangeSpec := { name := "fnExactFoldsFlat", fn := fun _ => fun
  | [d] => { results := [.lit (.bool false)], args := [d] }
  | _ => none }
def FnExactFoldsFlatWrongFalsely : Prop := fnExactFoldsFlatRow.holds Try.pinned (OpenSpec.ofChange fnExactFoldsFlatWrong)

/-- 'laws.FnExactFacesOf': WHATEVER THE INPUT: true; the input reads as it did. -/
def fnExactFacesOfSpec : ChangeSpec := { name := "fnExactFacesOf", fn := fun _ => fun
  | [d] => { results := [.lit (.bool true)], args := [d] }
  | _ => none }
def fnExactFacesOfRow : OpenClaim := { program := "ytemmbpmgfjodnaa", sum := "268bb7acc90bafa614ca17ffbef086b397d06a0aee9b8d610435ce01d81911a8", func := "loop.example/g03400/laws.FnExactFacesOf", spec := "fnExactFacesOf", plainKeys := false, apart := false }
def FnExactFacesOfSaid : Prop := fnExactFacesOfRow.holds Try.pinned (OpenSpec.ofChange fnExactFacesOfSpec)

/-- ITS FALSE NEIGHBOUR: 'it returns false'. Refute it at one input. -/
def fnExactFacesOfWrong : ChangeSpec := { name := "fnExactFacesOf", fn := fun _ => fun
  | [d] => { results := [.lit (.bool false)], args := [d] }
  | _ => none }
def FnExactFacesOfWrongFalsely : Prop := fnExactFacesOfRow.holds Try.pinned (OpenSpec.ofChange fnExactFacesOfWrong)

/-- 'laws.FnExactSnakeOrder': WHATEVER THE INPUT: true; the input reads as it did. -/
def fnExactSnakeOrderSpec : ChangeSpec := { name := "fnExactSnakeOrder", fn := fun _ => fun
  | [d] => { results := [.lit (.bool true)], args := [d] }
  | _ => none }
def fnExactSnakeOrderRow : OpenClaim := { program := "ytemmbpmgfjodnaa", sum := "268bb7acc90bafa614ca17ffbef086b397d06a0aee9b8d610435ce01d81911a8", func := "loop.example/g03400/laws.FnExactSnakeOrder", spec := "fnExactSnakeOrder", plainKeys := false, apart := false }
def FnExactSnakeOrderSaid : Prop := fnExactSnakeOrderRow.holds Try.pinned (OpenSpec.ofChange fnExactSnakeOrderSpec)

/-- ITS FALSE NEIGHBOUR: 'it returns false'. Refute it at one input. -/
def fnExactSnakeOrderWrong : ChangeSpec := { name := "fnExactSnakeOrder", fn := fun _ => fun
  | [d] => { results := [.lit (.bool false)], args := [d] }
  | _ => none }
def FnExactSnakeOrderWrongFalsely : Prop := fnExactSnakeOrderRow.holds Try.pinned (OpenSpec.ofChange fnExactSnakeOrderWrong)

/-- 'laws.FnExactSnakeWord': WHATEVER THE INPUT: true; the input reads as it did. -/
def fnExactSnakeWordSpec : ChangeSpec := { name := "fnExactSnakeWord", fn := fun _ => fun
  | [d] => { results := [.lit (.bool true)], args := [d] }
  | _ => none }
def fnExactSnakeWordRow : OpenClaim := { program := "ytemmbpmgfjodnaa", sum := "268bb7acc90bafa614ca17ffbef086b397d06a0aee9b8d610435ce01d81911a8", func := "loop.example/g03400/laws.FnExactSnakeWord", spec := "fnExactSnakeWord", plainKeys := false, apart := false }
def FnExactSnakeWordSaid : Prop := fnExactSnakeWordRow.holds Try.pinned (OpenSpec.ofChange fnExactSnakeWordSpec)

/-- ITS FALSE NEIGHBOUR: 'it returns false'. Refute it at one input. -/
def fnExactSnakeWordWrong : ChangeSpec := { name := "fnExactSnakeWord", fn := fun _ => fun
  | [d] => { results := [.lit (.bool false)], args := [d] }
  | _ => none }
def FnExactSnakeWordWrongFalsely : Prop := fnExactSnakeWordRow.holds Try.pinned (OpenSpec.ofChange fnExactSnakeWordWrong)

/-- 'laws.FnExactFacesCovered': WHATEVER THE INPUT: true; the input reads as it did. -/
def fnExactFacesCoveredSpec : ChangeSpec := { name := "fnExactFacesCovered", fn := fun _ => fun
  | [d] => { results := [.lit (.bool true)], args := [d] }
  | _ => none }
def fnExactFacesCoveredRow : OpenClaim := { program := "ytemmbpmgfjodnaa", sum := "268bb7acc90bafa614ca17ffbef086b397d06a0aee9b8d610435ce01d81911a8", func := "loop.example/g03400/laws.FnExactFacesCovered", spec := "fnExactFacesCovered", recurses := true, plainKeys := false, apart := false }
def FnExactFacesCoveredSaid : Prop := fnExactFacesCoveredRow.holds Try.pinned (OpenSpec.ofChange fnExactFacesCoveredSpec)

/-- ITS FALSE NEIGHBOUR: 'it returns false'. Refute it at one input. -/
def fnExactFacesCoveredWrong : ChangeSpec := { name := "fnExactFacesCovered", fn := fun _ => fun
  | [d] => { results := [.lit (.bool false)], args := [d] }
  | _ => none }
def FnExactFacesCoveredWrongFalsely : Prop := fnExactFacesCoveredRow.holds Try.pinned (OpenSpec.ofChange fnExactFacesCoveredWrong)

/-- 'laws.FnExactIsCubeNet': WHATEVER THE INPUT: true; the input reads as it did. -/
def fnExactIsCubeNetSpec : ChangeSpec := { name := "fnExactIsCubeNet", fn := fun _ => fun
  | [d] => { results := [.lit (.bool true)], args := [d] }
  | _ => none }
def fnExactIsCubeNetRow : OpenClaim := { program := "ytemmbpmgfjodnaa", sum := "268bb7acc90bafa614ca17ffbef086b397d06a0aee9b8d610435ce01d81911a8", func := "loop.example/g03400/laws.FnExactIsCubeNet", spec := "fnExactIsCubeNet", recurses := true, plainKeys := false, apart := false }
def FnExactIsCubeNetSaid : Prop := fnExactIsCubeNetRow.holds Try.pinned (OpenSpec.ofChange fnExactIsCubeNetSpec)

/-- ITS FALSE NEIGHBOUR: 'it returns false'. Refute it at one input. -/
def fnExactIsCubeNetWrong : ChangeSpec := { name := "fnExactIsCubeNet", fn := fun _ => fun
  | [d] => { results := [.lit (.bool false)], args := [d] }
  | _ => none }
def FnExactIsCubeNetWrongFalsely : Prop := fnExactIsCubeNetRow.holds Try.pinned (OpenSpec.ofChange fnExactIsCubeNetWrong)

/-- 'laws.FnExactOppositeFaces': WHATEVER THE INPUT: true; the input reads as it did. -/
def fnExactOppositeFacesSpec : ChangeSpec := { name := "fnExactOppositeFaces", fn := fun _ => fun
  | [d] => { results := [.lit (.bool true)], args := [d] }
  | _ => none }
def fnExactOppositeFacesRow : OpenClaim := { program := "ytemmbpmgfjodnaa", sum := "268bb7acc90bafa614ca17ffbef086b397d06a0aee9b8d610435ce01d81911a8", func := "loop.example/g03400/laws.FnExactOppositeFaces", spec := "fnExactOppositeFaces", recurses := true, plainKeys := false, apart := false }
def FnExactOppositeFacesSaid : Prop := fnExactOppositeFacesRow.holds Try.pinned (OpenSpec.ofChange fnExactOppositeFacesSpec)

/-- ITS FALSE NEIGHBOUR: 'it returns false'. Refute it at one input. -/
def fnExactOppositeFacesWrong : ChangeSpec := { name := "fnExactOppositeFaces", fn := fun _ => fun
  | [d] => { results := [.lit (.bool false)], args := [d] }
  | _ => none }
def FnExactOppositeFacesWrongFalsely : Prop := fnExactOppositeFacesRow.holds Try.pinned (OpenSpec.ofChange fnExactOppositeFacesWrong)

/- THE SECOND FORM. 'bulk': how many values and letters a reading holds, each counted each time it is reached (what is shared counts as often as it is met; a slice's spare places count too). A statement '..UptoSaid' is the law's where the arguments, and the package variables that the reading takes, are together of bulk at most 1048576: NARROWER than '..Said'. Prove '..Said' where nothing that the law and all that it calls make is longer than what came in: it says more and counts as full. Else prove '..UptoSaid'. A law counts once. -/
mutual
def uptoBulk {H : Type} : DataW H → Nat
  | .lit (.string bytes) => bytes.length + 1
  | .lit _ => 1
  | .nil => 1
  | .ptr d => uptoBulk d + 1
  | .slice elems spare => uptoBulkAll elems + uptoBulkAll spare + 1
  | .agg parts => uptoBulkAll parts + 1
  | .iface _ d => uptoBulk d + 1
  | .map entries => uptoBulkEntries entries + 1
  | .held _ => 1
def uptoBulkAll {H : Type} : List (DataW H) → Nat
  | [] => 0
  | d :: r => uptoBulk d + uptoBulkAll r
def uptoBulkEntries {H : Type} : List (Lit × DataW H) → Nat
  | [] => 0
  | x :: r => uptoBulkEntry x + uptoBulkEntries r
def uptoBulkEntry {H : Type} : Lit × DataW H → Nat
  | (.string bytes, d) => bytes.length + uptoBulk d + 1
  | (_, d) => uptoBulk d + 1
 end
def uptoSmall : (H : Type) → List (DataW H) → Bool := fun _ ds => decide (uptoBulkAll ds ≤ 1048576)
def OpenSpec.upto (s : _root_.Go.ChangeSpec) : _root_.Go.OpenSpec := { _root_.Go.OpenSpec.ofChange s with cond := some uptoSmall }

/-- 'laws.FnExactTurnsOf', WHERE WHAT IT READS IS OF BULK AT MOST 1048576: true; the input reads as it did. -/
def fnExactTurnsOfUptoRow : OpenClaim := { program := "ytemmbpmgfjodnaa", sum := "268bb7acc90bafa614ca17ffbef086b397d06a0aee9b8d610435ce01d81911a8", func := "loop.example/g03400/laws.FnExactTurnsOf", spec := "fnExactTurnsOf", plainKeys := false, apart := false, narrowed := true }
def FnExactTurnsOfUptoSaid : Prop := fnExactTurnsOfUptoRow.holds Try.pinned (OpenSpec.upto fnExactTurnsOfSpec)

/-- 'laws.FnExactPiecesArea', WHERE WHAT IT READS IS OF BULK AT MOST 1048576: true; the input reads as it did. -/
def fnExactPiecesAreaUptoRow : OpenClaim := { program := "ytemmbpmgfjodnaa", sum := "268bb7acc90bafa614ca17ffbef086b397d06a0aee9b8d610435ce01d81911a8", func := "loop.example/g03400/laws.FnExactPiecesArea", spec := "fnExactPiecesArea", plainKeys := false, apart := false, narrowed := true }
def FnExactPiecesAreaUptoSaid : Prop := fnExactPiecesAreaUptoRow.holds Try.pinned (OpenSpec.upto fnExactPiecesAreaSpec)

/-- 'laws.FnExactEndsOf', WHERE WHAT IT READS IS OF BULK AT MOST 1048576: true; the input reads as it did. -/
def fnExactEndsOfUptoRow : OpenClaim := { program := "ytemmbpmgfjodnaa", sum := "268bb7acc90bafa614ca17ffbef086b397d06a0aee9b8d610435ce01d81911a8", func := "loop.example/g03400/laws.FnExactEndsOf", spec := "fnExactEndsOf", plainKeys := false, apart := false, narrowed := true }
def FnExactEndsOfUptoSaid : Prop := fnExactEndsOfUptoRow.holds Try.pinned (OpenSpec.upto fnExactEndsOfSpec)

/-- 'laws.FnExactIsSnake', WHERE WHAT IT READS IS OF BULK AT MOST 1048576: true; the input reads as it did. -/
def fnExactIsSnakeUptoRow : OpenClaim := { program := "ytemmbpmgfjodnaa", sum := "268bb7acc90bafa614ca17ffbef086b397d06a0aee9b8d610435ce01d81911a8", func := "loop.example/g03400/laws.FnExactIsSnake", spec := "fnExactIsSnake", plainKeys := false, apart := false, narrowed := true }
def FnExactIsSnakeUptoSaid : Prop := fnExactIsSnakeUptoRow.holds Try.pinned (OpenSpec.upto fnExactIsSnakeSpec)

/-- 'laws.FnExactGrowthSteps', WHERE WHAT IT READS IS OF BULK AT MOST 1048576: true; the input reads as it did. -/
def fnExactGrowthStepsUptoRow : OpenClaim := { program := "ytemmbpmgfjodnaa", sum := "268bb7acc90bafa614ca17ffbef086b397d06a0aee9b8d610435ce01d81911a8", func := "loop.example/g03400/laws.FnExactGrowthSteps", spec := "fnExactGrowthSteps", plainKeys := false, apart := false, narrowed := true }
def FnExactGrowthStepsUptoSaid : Prop := fnExactGrowthStepsUptoRow.holds Try.pinned (OpenSpec.upto fnExactGrowthStepsSpec)

/-- 'laws.FnExactFoldsFlat', WHERE WHAT IT READS IS OF BULK AT MOST 1048576: true; the input reads as it did. -/
def fnExactFoldsFlatUptoRow : OpenClaim := { program := "ytemmbpmgfjodnaa", sum := "268bb7acc90bafa614ca17ffbef086b397d06a0aee9b8d610435ce01d81911a8", func := "loop.example/g03400/laws.FnExactFoldsFlat", spec := "fnExactFoldsFlat", plainKeys := false, apart := false, narrowed := true }
def FnExactFoldsFlatUptoSaid : Prop := fnExactFoldsFlatUptoRow.holds Try.pinned (OpenSpec.upto fnExactFoldsFlatSpec)

/-- 'laws.FnExactFacesOf', WHERE WHAT IT READS IS OF BULK AT MOST 1048576: true; the input reads as it did. -/
def fnExactFacesOfUptoRow : OpenClaim := { program := "ytemmbpmgfjodnaa", sum := "268bb7acc90bafa614ca17ffbef086b397d06a0aee9b8d610435ce01d81911a8", func := "loop.example/g03400/laws.FnExactFacesOf", spec := "fnExactFacesOf", plainKeys := false, apart := false, narrowed := true }
def FnExactFacesOfUptoSaid : Prop := fnExactFacesOfUptoRow.holds Try.pinned (OpenSpec.upto fnExactFacesOfSpec)

/-- 'laws.FnExactSnakeOrder', WHERE WHAT IT READS IS OF BULK AT MOST 1048576: true; the input reads as it did. -/
def fnExactSnakeOrderUptoRow : OpenClaim := { program := "ytemmbpmgfjodnaa", sum := "268bb7acc90bafa614ca17ffbef086b397d06a0aee9b8d610435ce01d81911a8", func := "loop.example/g03400/laws.FnExactSnakeOrder", spec := "fnExactSnakeOrder", plainKeys := false, apart := false, narrowed := true }
def FnExactSnakeOrderUptoSaid : Prop := fnExactSnakeOrderUptoRow.holds Try.pinned (OpenSpec.upto fnExactSnakeOrderSpec)

/-- 'laws.FnExactSnakeWord', WHERE WHAT IT READS IS OF BULK AT MOST 1048576: true; the input reads as it did. -/
def fnExactSnakeWordUptoRow : OpenClaim := { program := "ytemmbpmgfjodnaa", sum := "268bb7acc90bafa614ca17ffbef086b397d06a0aee9b8d610435ce01d81911a8", func := "loop.example/g03400/laws.FnExactSnakeWord", spec := "fnExactSnakeWord", plainKeys := false, apart := false, narrowed := true }
def FnExactSnakeWordUptoSaid : Prop := fnExactSnakeWordUptoRow.holds Try.pinned (OpenSpec.upto fnExactSnakeWordSpec)

/-- 'laws.FnExactFacesCovered', WHERE WHAT IT READS IS OF BULK AT MOST 1048576: true; the input reads as it did. -/
def fnExactFacesCoveredUptoRow : OpenClaim := { program := "ytemmbpmgfjodnaa", sum := "268bb7acc90bafa614ca17ffbef086b397d06a0aee9b8d610435ce01d81911a8", func := "loop.example/g03400/laws.FnExactFacesCovered", spec := "fnExactFacesCovered", recurses := true, plainKeys := false, apart := false, narrowed := true }
def FnExactFacesCoveredUptoSaid : Prop := fnExactFacesCoveredUptoRow.holds Try.pinned (OpenSpec.upto fnExactFacesCoveredSpec)

/-- 'laws.FnExactIsCubeNet', WHERE WHAT IT READS IS OF BULK AT MOST 1048576: true; the input reads as it did. -/
def fnExactIsCubeNetUptoRow : OpenClaim := { program := "ytemmbpmgfjodnaa", sum := "268bb7acc90bafa614ca17ffbef086b397d06a0aee9b8d610435ce01d81911a8", func := "loop.example/g03400/laws.FnExactIsCubeNet", spec := "fnExactIsCubeNet", recurses := true, plainKeys := false, apart := false, narrowed := true }
def FnExactIsCubeNetUptoSaid : Prop := fnExactIsCubeNetUptoRow.holds Try.pinned (OpenSpec.upto fnExactIsCubeNetSpec)

/-- 'laws.FnExactOppositeFaces', WHERE WHAT IT READS IS OF BULK AT MOST 1048576: true; the input reads as it did. -/
def fnExactOppositeFacesUptoRow : OpenClaim := { program := "ytemmbpmgfjodnaa", sum := "268bb7acc90bafa614ca17ffbef086b397d06a0aee9b8d610435ce01d81911a8", func := "loop.example/g03400/laws.FnExactOppositeFaces", spec := "fnExactOppositeFaces", recurses := true, plainKeys := false, apart := false, narrowed := true }
def FnExactOppositeFacesUptoSaid : Prop := fnExactOppositeFacesUptoRow.holds Try.pinned (OpenSpec.upto fnExactOppositeFacesSpec)

end Rows
end Go.Proofs.Ytemmbpmgfjodnaa
