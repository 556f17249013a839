/-
  DERIVED. GIVEN WITH THE SEED: THE CARDS: each row of YtdheokololpnbaaGreatDoorRows.lean that lists a variable, with what it lists TIED to the program's text (the seventh form; the later family's looks); each row that meets fmt, with fmt's text TOLD by the authors' own Lean function (tested against real Go, not proved from fmt's source: count such statements apart). THE CARD IS WHAT COUNTS. Prove the row's statement (the work); the ties are given (YtdheokololpnbaaGreatDoorTie.lean); close each card by the builder's one call (the guide's Derived/Test/ToyasCard.lean, 'card_holds'). Laid BY PROGRAM, IN A SANDBOX (cutbox-door.mjs). By AI agents, Wed Nov 11 2026. No macro, syntax, notation, axiom, sorry.
-/
import Derived.Test.YtdheokololpnbaaGreatDoorRows
import GoSem.ClaimSeven
namespace Go.Proofs.YtdheokololpnbaaGreatDoor
namespace Rows

/-- THE TIED CARD OF 'redpencillaw13.FormHolds'. -/
def formHoldsCard : Claim7 := { stood := { row := formHoldsRow, standIns := [], harness := (true, "c167acef16e33df87c816861fd84bcc807800d6559946381e878c112beccb0bf"), looks := false }, kinds := [], alts := [], laidByText := true, laidKinds := [.data], laidTests := true, laidLooks := .later }
def FormHoldsCardSaid : Prop := Claim7.holds Tryz.pinned (.plain (OpenSpec.ofChange formHoldsSpec)) formHoldsCard

/-- THE SECOND FORM's CARD OF 'redpencillaw13.FormHolds'. -/
def formHoldsUptoCard : Claim7 := { stood := { row := formHoldsUptoRow, standIns := [], harness := (true, "c167acef16e33df87c816861fd84bcc807800d6559946381e878c112beccb0bf"), looks := false }, kinds := [], alts := [], laidByText := true, laidKinds := [.data], laidTests := true, laidLooks := .later }
def FormHoldsUptoCardSaid : Prop := Claim7.holds Tryz.pinned (.plain (OpenSpec.upto formHoldsSpec)) formHoldsUptoCard
end Rows
end Go.Proofs.YtdheokololpnbaaGreatDoor
