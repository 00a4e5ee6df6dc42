/-
  DERIVED. GIVEN WITH THE SEED: THE CARDS: each row of YtkcgdnnipohehaaGreatDoorRows.lean that lists a variable, with what it lists TIED to the program's text (the seventh form; the later family's looks); each row that meets fmt, with fmt's text TOLD by the authors' own Lean function (tested against real Go, not proved from fmt's source: count such statements apart). THE CARD IS WHAT COUNTS. Prove the row's statement (the work); the ties are given (YtkcgdnnipohehaaGreatDoorTie.lean); close each card by the builder's one call (the guide's Derived/Test/ToyasCard.lean, 'card_holds'). Laid BY PROGRAM, IN A SANDBOX (cutbox-door.mjs). By AI agents, Wed Nov 11 2026. No macro, syntax, notation, axiom, sorry.
-/
import Derived.Test.YtkcgdnnipohehaaGreatDoorRows
import GoSem.ClaimSeven
namespace Go.Proofs.YtkcgdnnipohehaaGreatDoor
namespace Rows

/-- THE TIED CARD OF 'laws.FnOrbits'. -/
def fnOrbitsCard : Claim7 := { stood := { row := fnOrbitsRow, standIns := [], harness := (true, "25b95cc122d924806c1f5afaa9535fc76cdfadaaaebc54659e0e69e34d976cbe"), looks := false }, kinds := [], alts := [], laidByText := true, laidKinds := [.data, .data], laidTests := true, laidLooks := .later }
def FnOrbitsCardSaid : Prop := Claim7.holds Tryz.pinned (.plain (OpenSpec.ofChange fnOrbitsSpec)) fnOrbitsCard

/-- THE TIED CARD OF 'laws.FnFree'. -/
def fnFreeCard : Claim7 := { stood := { row := fnFreeRow, standIns := [], harness := (true, "25b95cc122d924806c1f5afaa9535fc76cdfadaaaebc54659e0e69e34d976cbe"), looks := false }, kinds := [], alts := [], laidByText := true, laidKinds := [.data, .pinned], laidTests := true, laidLooks := .later }
def FnFreeCardSaid : Prop := Claim7.holds Tryz.pinned (.plain (OpenSpec.ofChange fnFreeSpec)) fnFreeCard

/-- THE SECOND FORM's CARD OF 'laws.FnOrbits'. -/
def fnOrbitsUptoCard : Claim7 := { stood := { row := fnOrbitsUptoRow, standIns := [], harness := (true, "25b95cc122d924806c1f5afaa9535fc76cdfadaaaebc54659e0e69e34d976cbe"), looks := false }, kinds := [], alts := [], laidByText := true, laidKinds := [.data, .data], laidTests := true, laidLooks := .later }
def FnOrbitsUptoCardSaid : Prop := Claim7.holds Tryz.pinned (.plain (OpenSpec.upto fnOrbitsSpec)) fnOrbitsUptoCard

/-- THE SECOND FORM's CARD OF 'laws.FnFree'. -/
def fnFreeUptoCard : Claim7 := { stood := { row := fnFreeUptoRow, standIns := [], harness := (true, "25b95cc122d924806c1f5afaa9535fc76cdfadaaaebc54659e0e69e34d976cbe"), looks := false }, kinds := [], alts := [], laidByText := true, laidKinds := [.data, .pinned], laidTests := true, laidLooks := .later }
def FnFreeUptoCardSaid : Prop := Claim7.holds Tryz.pinned (.plain (OpenSpec.upto fnFreeSpec)) fnFreeUptoCard
end Rows
end Go.Proofs.YtkcgdnnipohehaaGreatDoor
