/- Proved: StoreRemoves, for every input, tied to the program's text: the law answers true and its arguments read as they did. What the card says of date.months is the translator's and the tie's; the law's run never looks at it. The frame began as the proof-skeleton program's print. -/
import Derived.Test.YtpbnfcmlcmiieaaGreatDoorRows
import Derived.Test.YtpbnfcmlcmiieaaGreatDoorCards
import Derived.Test.YtpbnfcmlcmiieaaGreatDoorTie
import Derived.WalkKit
import Derived.ProofKit
import Derived.LaidMore
import Derived.OpenShut
import Derived.Stop.Joined
import Derived.SevenTiedAt
import Derived.Below
import Derived.Test.YtpbnfcmlcmiieaaGreatDoorP16
import Derived.Test.YtpbnfcmlcmiieaaGreatDoorP17
import Derived.Test.YtpbnfcmlcmiieaaGreatDoorP18
import Derived.Test.YtpbnfcmlcmiieaaGreatDoorP19
set_option linter.unusedSimpArgs false
set_option linter.unusedVariables false
set_option linter.unusedSectionVars false
set_option linter.deprecated false
set_option maxRecDepth 100000
namespace Go.Proofs.YtpbnfcmlcmiieaaGreatDoor.storeRemoves
open Go.ChangeShapes Go.WideShapes Go.ChangeAt Go.RowKit
theorem facts : joinedFacts Tryz.pinned.checked.prog 3 Tryz.f3 Rows.storeRemovesSpec Rows.storeRemovesRow = true := by
  unfold joinedFacts
  simp only [Ab]
  exact ⟨⟨⟨⟨⟨⟨⟨⟨⟨⟨⟨⟨⟨⟨⟨⟨⟨⟨⟨⟨⟨⟨⟨⟨⟨⟨⟨⟨⟨⟨⟨j0, j1⟩, j2⟩, j3⟩, j4⟩, j5⟩, j6⟩, j7⟩, j8⟩, j9⟩, yY⟩, yZ⟩, y5⟩, y6⟩, y7⟩, y8⟩, y9⟩, za⟩, zb⟩, zd⟩, ze⟩, zf⟩, zg⟩, zh⟩, zi⟩, zj⟩, zk⟩, zl⟩, zm⟩, zn⟩, zo⟩, zp⟩
theorem row : Rows.StoreRemovesSaid :=
  OpenClaim.holds_of_wide 3 Tryz.f3 rfl rfl rfl rfl rfl rfl rfl ⟨rfl, rfl, rfl, rfl, rfl⟩ rfl rfl rfl rfl rfl w1 Tryz.func3 facts
    (Bi (by kernel_rfl)) (by unfold Func.isWrapper; first | (rw [Ai (by decide +kernel)]; kernel_rfl) | (rw [Ae (by decide +kernel)]; exact ⟨rfl, rfl⟩))
    (fun os started H enc _ => lifted os started H enc)
theorem proved : Rows.StoreRemovesCardSaid :=
  Claim7.holds_tied_plain_at .later [] [.data] true (true, "115f88083be34e0e6f2e27bada26c79c0d642f53ca9bcdfb28b79036271dd707") false
    row (fun _ h => by cases h) w2 (fun _ h => by cases h) storeRemoves_row_tie rfl ⟨rfl, rfl⟩ w3 rfl
    (fun f fn hf hfn => by
      obtain rfl : f = 3 := BT (w1.symm.trans hf) |>.symm
      obtain rfl : fn = Tryz.f3 := (BT (Tryz.func3.symm.trans hfn)).symm
      exact ⟨w4, fun j t ht => by
        rw [Tryz.params3] at ht
        have hm : t ∈ [22, 23] := by simpa using Array.mem_of_getElem? ht
        exact (show Tryz.prog.wantsStandIn t = false by simpa using Av.1 w5 t hm)⟩)
    w6
#print axioms proved
end Go.Proofs.YtpbnfcmlcmiieaaGreatDoor.storeRemoves
