/-
  DERIVED. GIVEN WITH THE SEED: THE CARDS: each row of YtcgjnonlndaoeaaGreatDoorRows.lean that lists a variable, with what it lists TIED to the program's text (the seventh form; the later family's looks); each row that meets fmt, with fmt's text TOLD by the authors' own Lean function (tested against real Go, not proved from fmt's source: count such statements apart). THE CARD IS WHAT COUNTS. Prove the row's statement (the work); the ties are given (YtcgjnonlndaoeaaGreatDoorTie.lean); close each card by the builder's one call (the guide's Derived/Test/ToyasCard.lean, 'card_holds'). Laid BY PROGRAM, IN A SANDBOX (cutbox-door.mjs). By AI agents, Wed Nov 11 2026. No macro, syntax, notation, axiom, sorry.
-/
import Derived.Test.YtcgjnonlndaoeaaGreatDoorRows
import GoSem.ClaimSeven
namespace Go.Proofs.YtcgjnonlndaoeaaGreatDoor
namespace Rows

/-- THE TIED CARD OF 'laws.FnExactCountCovering'. -/
def fnExactCountCoveringCard : Claim7 := { stood := { row := fnExactCountCoveringRow, standIns := [], harness := (true, "f0d73a68d160c7a7ac52ada312b2caea1224449b36d043236437036b214c2972"), looks := false }, kinds := [], alts := [], laidByText := true, laidKinds := [.data, .data], laidTests := true, laidLooks := .later }
def FnExactCountCoveringCardSaid : Prop := Claim7.holds Tryz.pinned (.plain (OpenSpec.ofChange fnExactCountCoveringSpec)) fnExactCountCoveringCard

/-- THE TIED CARD OF 'laws.FnExactFewestCovering'. -/
def fnExactFewestCoveringCard : Claim7 := { stood := { row := fnExactFewestCoveringRow, standIns := [], harness := (true, "f0d73a68d160c7a7ac52ada312b2caea1224449b36d043236437036b214c2972"), looks := false }, kinds := [], alts := [], laidByText := true, laidKinds := [.data, .data], laidTests := true, laidLooks := .later }
def FnExactFewestCoveringCardSaid : Prop := Claim7.holds Tryz.pinned (.plain (OpenSpec.ofChange fnExactFewestCoveringSpec)) fnExactFewestCoveringCard

/-- THE TIED CARD OF 'laws.FnOverlaps'. -/
def fnOverlapsCard : Claim7 := { stood := { row := fnOverlapsRow, standIns := [], harness := (true, "f0d73a68d160c7a7ac52ada312b2caea1224449b36d043236437036b214c2972"), looks := false }, kinds := [], alts := [], laidByText := true, laidKinds := [.data, .data], laidTests := true, laidLooks := .later }
def FnOverlapsCardSaid : Prop := Claim7.holds Tryz.pinned (.plain (OpenSpec.ofChange fnOverlapsSpec)) fnOverlapsCard

/-- THE SECOND FORM's CARD OF 'laws.FnExactCountCovering'. -/
def fnExactCountCoveringUptoCard : Claim7 := { stood := { row := fnExactCountCoveringUptoRow, standIns := [], harness := (true, "f0d73a68d160c7a7ac52ada312b2caea1224449b36d043236437036b214c2972"), looks := false }, kinds := [], alts := [], laidByText := true, laidKinds := [.data, .data], laidTests := true, laidLooks := .later }
def FnExactCountCoveringUptoCardSaid : Prop := Claim7.holds Tryz.pinned (.plain (OpenSpec.upto fnExactCountCoveringSpec)) fnExactCountCoveringUptoCard

/-- THE SECOND FORM's CARD OF 'laws.FnExactFewestCovering'. -/
def fnExactFewestCoveringUptoCard : Claim7 := { stood := { row := fnExactFewestCoveringUptoRow, standIns := [], harness := (true, "f0d73a68d160c7a7ac52ada312b2caea1224449b36d043236437036b214c2972"), looks := false }, kinds := [], alts := [], laidByText := true, laidKinds := [.data, .data], laidTests := true, laidLooks := .later }
def FnExactFewestCoveringUptoCardSaid : Prop := Claim7.holds Tryz.pinned (.plain (OpenSpec.upto fnExactFewestCoveringSpec)) fnExactFewestCoveringUptoCard

/-- THE SECOND FORM's CARD OF 'laws.FnOverlaps'. -/
def fnOverlapsUptoCard : Claim7 := { stood := { row := fnOverlapsUptoRow, standIns := [], harness := (true, "f0d73a68d160c7a7ac52ada312b2caea1224449b36d043236437036b214c2972"), looks := false }, kinds := [], alts := [], laidByText := true, laidKinds := [.data, .data], laidTests := true, laidLooks := .later }
def FnOverlapsUptoCardSaid : Prop := Claim7.holds Tryz.pinned (.plain (OpenSpec.upto fnOverlapsSpec)) fnOverlapsUptoCard
end Rows
end Go.Proofs.YtcgjnonlndaoeaaGreatDoor
