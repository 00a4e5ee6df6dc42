/-
  DERIVED. GIVEN WITH THE SEED: THE CARDS: each row of YtoedmmhiinhljaaGreatDoorRows.lean that lists a variable, with what it lists TIED to the program's text (the seventh form; the later family's looks); each row that meets fmt, with fmt's text TOLD by the authors' own Lean function (tested against real Go, not proved from fmt's source: count such statements apart). THE CARD IS WHAT COUNTS. Prove the row's statement (the work); the ties are given (YtoedmmhiinhljaaGreatDoorTie.lean); close each card by the builder's one call (the guide's Derived/Test/ToyasCard.lean, 'card_holds'). Laid BY PROGRAM, IN A SANDBOX (cutbox-door.mjs). By AI agents, Wed Nov 11 2026. No macro, syntax, notation, axiom, sorry.
-/
import Derived.Test.YtoedmmhiinhljaaGreatDoorRows
import GoSem.ClaimSeven
namespace Go.Proofs.YtoedmmhiinhljaaGreatDoor
namespace Rows

/-- THE TIED CARD OF 'laws.FnExactFixedTilings'. -/
def fnExactFixedTilingsCard : Claim7 := { stood := { row := fnExactFixedTilingsRow, standIns := [], harness := (true, "4400a5a6d79fb815018492259db7d7dc655997640fa52c68ece4757ba1686c27"), looks := false }, kinds := [], alts := [], laidByText := true, laidKinds := [.data, .data], laidTests := true, laidLooks := .later }
def FnExactFixedTilingsCardSaid : Prop := Claim7.holds Tryz.pinned (.plain (OpenSpec.ofChange fnExactFixedTilingsSpec)) fnExactFixedTilingsCard

/-- THE TIED CARD OF 'laws.FnExactCountOrbits'. -/
def fnExactCountOrbitsCard : Claim7 := { stood := { row := fnExactCountOrbitsRow, standIns := [], harness := (true, "4400a5a6d79fb815018492259db7d7dc655997640fa52c68ece4757ba1686c27"), looks := false }, kinds := [], alts := [], laidByText := true, laidKinds := [.data, .data], laidTests := true, laidLooks := .later }
def FnExactCountOrbitsCardSaid : Prop := Claim7.holds Tryz.pinned (.plain (OpenSpec.ofChange fnExactCountOrbitsSpec)) fnExactCountOrbitsCard

/-- THE SECOND FORM's CARD OF 'laws.FnExactFixedTilings'. -/
def fnExactFixedTilingsUptoCard : Claim7 := { stood := { row := fnExactFixedTilingsUptoRow, standIns := [], harness := (true, "4400a5a6d79fb815018492259db7d7dc655997640fa52c68ece4757ba1686c27"), looks := false }, kinds := [], alts := [], laidByText := true, laidKinds := [.data, .data], laidTests := true, laidLooks := .later }
def FnExactFixedTilingsUptoCardSaid : Prop := Claim7.holds Tryz.pinned (.plain (OpenSpec.upto fnExactFixedTilingsSpec)) fnExactFixedTilingsUptoCard

/-- THE SECOND FORM's CARD OF 'laws.FnExactCountOrbits'. -/
def fnExactCountOrbitsUptoCard : Claim7 := { stood := { row := fnExactCountOrbitsUptoRow, standIns := [], harness := (true, "4400a5a6d79fb815018492259db7d7dc655997640fa52c68ece4757ba1686c27"), looks := false }, kinds := [], alts := [], laidByText := true, laidKinds := [.data, .data], laidTests := true, laidLooks := .later }
def FnExactCountOrbitsUptoCardSaid : Prop := Claim7.holds Tryz.pinned (.plain (OpenSpec.upto fnExactCountOrbitsSpec)) fnExactCountOrbitsUptoCard
end Rows
end Go.Proofs.YtoedmmhiinhljaaGreatDoor
