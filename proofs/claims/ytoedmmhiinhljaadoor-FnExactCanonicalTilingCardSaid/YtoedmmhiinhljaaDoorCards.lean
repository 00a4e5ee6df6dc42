/-
  DERIVED. GIVEN WITH THE SEED: THE CARDS: each row of YtoedmmhiinhljaaDoorRows.lean that lists a variable, with what it lists TIED to the program's text (the seventh form; the later family's looks); each row that meets fmt, with fmt's text TOLD by the authors' own Lean function (tested against real Go, not proved from fmt's source: count such statements apart). THE CARD IS WHAT COUNTS. Prove the row's statement (the work); the ties are given (YtoedmmhiinhljaaDoorTie.lean); close each card by the builder's one call (the guide's Derived/Test/ToyasCard.lean, 'card_holds'). Laid BY PROGRAM, IN A SANDBOX (cutbox-door.mjs). By AI agents, Wed Nov 11 2026. No macro, syntax, notation, axiom, sorry.
-/
import Derived.Test.YtoedmmhiinhljaaDoorRows
import GoSem.ClaimSeven
namespace Go.Proofs.YtoedmmhiinhljaaDoor
namespace Rows

/-- THE TIED CARD OF 'laws.FnExactTurnTiling'. -/
def fnExactTurnTilingCard : Claim7 := { stood := { row := fnExactTurnTilingRow, standIns := [], harness := (true, "727ba8dcebf028c5ec3a9bfe103bd0ab16c00a7d9f1749b240e973482a490a97"), looks := false }, kinds := [], alts := [], laidByText := true, laidKinds := [.data, .data], laidTests := true, laidLooks := .later }
def FnExactTurnTilingCardSaid : Prop := Claim7.holds Tryd.pinned (.plain (OpenSpec.ofChange fnExactTurnTilingSpec)) fnExactTurnTilingCard

/-- THE TIED CARD OF 'laws.FnExactCanonicalTiling'. -/
def fnExactCanonicalTilingCard : Claim7 := { stood := { row := fnExactCanonicalTilingRow, standIns := [], harness := (true, "727ba8dcebf028c5ec3a9bfe103bd0ab16c00a7d9f1749b240e973482a490a97"), looks := false }, kinds := [], alts := [], laidByText := true, laidKinds := [.data, .data], laidTests := true, laidLooks := .later }
def FnExactCanonicalTilingCardSaid : Prop := Claim7.holds Tryd.pinned (.plain (OpenSpec.ofChange fnExactCanonicalTilingSpec)) fnExactCanonicalTilingCard

/-- THE SECOND FORM's CARD OF 'laws.FnExactTurnTiling'. -/
def fnExactTurnTilingUptoCard : Claim7 := { stood := { row := fnExactTurnTilingUptoRow, standIns := [], harness := (true, "727ba8dcebf028c5ec3a9bfe103bd0ab16c00a7d9f1749b240e973482a490a97"), looks := false }, kinds := [], alts := [], laidByText := true, laidKinds := [.data, .data], laidTests := true, laidLooks := .later }
def FnExactTurnTilingUptoCardSaid : Prop := Claim7.holds Tryd.pinned (.plain (OpenSpec.upto fnExactTurnTilingSpec)) fnExactTurnTilingUptoCard

/-- THE SECOND FORM's CARD OF 'laws.FnExactCanonicalTiling'. -/
def fnExactCanonicalTilingUptoCard : Claim7 := { stood := { row := fnExactCanonicalTilingUptoRow, standIns := [], harness := (true, "727ba8dcebf028c5ec3a9bfe103bd0ab16c00a7d9f1749b240e973482a490a97"), looks := false }, kinds := [], alts := [], laidByText := true, laidKinds := [.data, .data], laidTests := true, laidLooks := .later }
def FnExactCanonicalTilingUptoCardSaid : Prop := Claim7.holds Tryd.pinned (.plain (OpenSpec.upto fnExactCanonicalTilingSpec)) fnExactCanonicalTilingUptoCard
end Rows
end Go.Proofs.YtoedmmhiinhljaaDoor
