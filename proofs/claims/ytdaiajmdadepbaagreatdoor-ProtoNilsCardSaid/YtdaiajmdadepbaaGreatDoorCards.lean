/-
  DERIVED. GIVEN WITH THE SEED: THE CARDS: each row of YtdaiajmdadepbaaGreatDoorRows.lean that lists a variable, with what it lists TIED to the program's text (the seventh form; the later family's looks); each row that meets fmt, with fmt's text TOLD by the authors' own Lean function (tested against real Go, not proved from fmt's source: count such statements apart). THE CARD IS WHAT COUNTS. Prove the row's statement (the work); the ties are given (YtdaiajmdadepbaaGreatDoorTie.lean); close each card by the builder's one call (the guide's Derived/Test/ToyasCard.lean, 'card_holds'). Laid BY PROGRAM, IN A SANDBOX (cutbox-door.mjs). By AI agents, Wed Nov 11 2026. No macro, syntax, notation, axiom, sorry.
-/
import Derived.Test.YtdaiajmdadepbaaGreatDoorRows
import GoSem.ClaimSeven
namespace Go.Proofs.YtdaiajmdadepbaaGreatDoor
namespace Rows

/-- THE TIED CARD OF 'biscottilaw38.ProtoNils'. -/
def protoNilsCard : Claim7 := { stood := { row := protoNilsRow, standIns := [], harness := (true, "f3094eca1b50fcbd1f77f181563f9ebe425288d282e09818f3e12cf5a7a41d39"), looks := false }, kinds := [], alts := [], laidByText := true, laidKinds := [.data], laidTests := true, laidLooks := .later }
def ProtoNilsCardSaid : Prop := Claim7.holds Tryz.pinned (.plain (OpenSpec.ofChange protoNilsSpec)) protoNilsCard

/-- THE SECOND FORM's CARD OF 'biscottilaw38.ProtoNils'. -/
def protoNilsUptoCard : Claim7 := { stood := { row := protoNilsUptoRow, standIns := [], harness := (true, "f3094eca1b50fcbd1f77f181563f9ebe425288d282e09818f3e12cf5a7a41d39"), looks := false }, kinds := [], alts := [], laidByText := true, laidKinds := [.data], laidTests := true, laidLooks := .later }
def ProtoNilsUptoCardSaid : Prop := Claim7.holds Tryz.pinned (.plain (OpenSpec.upto protoNilsSpec)) protoNilsUptoCard
end Rows
end Go.Proofs.YtdaiajmdadepbaaGreatDoor
