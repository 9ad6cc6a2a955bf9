/- Proved: ProtoNils, for every input, tied to the program's text: the law answers true and its arguments read as they did. What the card says of date.months is the translator's and the tie's; the law's run never looks at it. The frame began as the proof-skeleton program's print. -/
import Derived.Test.YtdaiajmdadepbaaGreatDoorRows
import Derived.Test.YtdaiajmdadepbaaGreatDoorCards
import Derived.Test.YtdaiajmdadepbaaGreatDoorTie
import Derived.WalkKit
import Derived.ProofKit
import Derived.LaidMore
import Derived.OpenShut
import Derived.Stop.Joined
import Derived.SevenTiedAt
import Derived.Below
import Derived.Test.YtdaiajmdadepbaaGreatDoorP9
set_option linter.unusedSimpArgs false
set_option linter.unusedVariables false
set_option linter.unusedSectionVars false
set_option linter.deprecated false
set_option maxRecDepth 100000
namespace Go.Proofs.YtdaiajmdadepbaaGreatDoor.protoNils
open Go.ChangeShapes Go.WideShapes Go.ChangeAt Go.RowKit
theorem facts : joinedFacts Tryz.pinned.checked.prog 3 Tryz.f3 Rows.protoNilsSpec Rows.protoNilsRow = true := by
  unfold joinedFacts
  simp only [Bool.and_eq_true]
  exact ⟨⟨⟨⟨⟨⟨⟨⟨⟨⟨⟨⟨⟨⟨⟨⟨⟨⟨⟨⟨⟨⟨⟨⟨⟨⟨⟨⟨⟨⟨⟨j0, j1⟩, j2⟩, j3⟩, j4⟩, j5⟩, j6⟩, j7⟩, j8⟩, j9⟩, j10⟩, j11⟩, j12⟩, j13⟩, j14⟩, j15⟩, j16⟩, j17⟩, j18⟩, j19⟩, j20⟩, j21⟩, j22⟩, j23⟩, j24⟩, j25⟩, j26⟩, j27⟩, j28⟩, j29⟩, j30⟩, j31⟩
theorem row : Rows.ProtoNilsSaid :=
  OpenClaim.holds_of_wide 3 Tryz.f3 rfl rfl rfl rfl rfl rfl rfl ⟨rfl, rfl, rfl, rfl, rfl⟩ rfl rfl rfl rfl rfl w1 Tryz.func3 facts
    (of_decide_eq_true (by kernel_rfl)) (by unfold Func.isWrapper; first | (rw [if_pos (by decide +kernel)]; kernel_rfl) | (rw [if_neg (by decide +kernel)]; exact ⟨rfl, rfl⟩))
    (fun os started H enc _ => lifted os started H enc)
theorem proved : Rows.ProtoNilsCardSaid :=
  Claim7.holds_tied_plain_at .later [] [.data] true (true, "f3094eca1b50fcbd1f77f181563f9ebe425288d282e09818f3e12cf5a7a41d39") false
    row (fun _ h => by cases h) w2 (fun _ h => by cases h) protoNils_row_tie rfl ⟨rfl, rfl⟩ w3 rfl
    (fun f fn hf hfn => by
      obtain rfl : f = 3 := Option.some.inj (w1.symm.trans hf) |>.symm
      obtain rfl : fn = Tryz.f3 := (Option.some.inj (Tryz.func3.symm.trans hfn)).symm
      exact ⟨w4, fun j t ht => by
        rw [Tryz.params3] at ht
        have hm : t ∈ [25, 3] := by simpa using Array.mem_of_getElem? ht
        exact (show Tryz.prog.wantsStandIn t = false by simpa using List.all_eq_true.1 w5 t hm)⟩)
    w6
#print axioms proved
end Go.Proofs.YtdaiajmdadepbaaGreatDoor.protoNils

