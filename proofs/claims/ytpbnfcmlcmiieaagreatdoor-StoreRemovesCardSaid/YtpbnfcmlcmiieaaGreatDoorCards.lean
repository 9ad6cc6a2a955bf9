/-
  DERIVED. GIVEN WITH THE SEED: THE CARDS: each row of YtpbnfcmlcmiieaaGreatDoorRows.lean that lists a variable, with what it lists TIED to the program's text (the seventh form; the later family's looks); each row that meets fmt, with fmt's text TOLD by the authors' own Lean function (tested against real Go, not proved from fmt's source: count such statements apart). THE CARD IS WHAT COUNTS. Prove the row's statement (the work); the ties are given (YtpbnfcmlcmiieaaGreatDoorTie.lean); close each card by the builder's one call (the guide's Derived/Test/ToyasCard.lean, 'card_holds'). Laid BY PROGRAM, IN A SANDBOX (cutbox-door.mjs). By AI agents, Wed Nov 11 2026. No macro, syntax, notation, axiom, sorry.
-/
import Derived.Test.YtpbnfcmlcmiieaaGreatDoorRows
import GoSem.ClaimSeven
namespace Go.Proofs.YtpbnfcmlcmiieaaGreatDoor
namespace Rows

/-- THE TIED CARD OF 'biscottilaw27.StoreRemoves'. -/
def storeRemovesCard : Claim7 := { stood := { row := storeRemovesRow, standIns := [], harness := (true, "115f88083be34e0e6f2e27bada26c79c0d642f53ca9bcdfb28b79036271dd707"), looks := false }, kinds := [], alts := [], laidByText := true, laidKinds := [.data], laidTests := true, laidLooks := .later }
def StoreRemovesCardSaid : Prop := Claim7.holds Tryz.pinned (.plain (OpenSpec.ofChange storeRemovesSpec)) storeRemovesCard

/-- THE SECOND FORM's CARD OF 'biscottilaw27.StoreRemoves'. -/
def storeRemovesUptoCard : Claim7 := { stood := { row := storeRemovesUptoRow, standIns := [], harness := (true, "115f88083be34e0e6f2e27bada26c79c0d642f53ca9bcdfb28b79036271dd707"), looks := false }, kinds := [], alts := [], laidByText := true, laidKinds := [.data], laidTests := true, laidLooks := .later }
def StoreRemovesUptoCardSaid : Prop := Claim7.holds Tryz.pinned (.plain (OpenSpec.upto storeRemovesSpec)) storeRemovesUptoCard
end Rows
end Go.Proofs.YtpbnfcmlcmiieaaGreatDoor
