/-
  NARROWER THAN 'FOR EVERY INPUT', by the rows' own cells (each row's printed sentence says how): StoreRemoves: laid.
  DERIVED. THE GIVEN ROWS OF THIS SEAT. 1 by the template 'for every input the law returns true; each argument reads behind the call as it read before'; 0 by the template 'total and deterministic' (their statements: YtpbnfcmlcmiieaaGreatDoorTotals.lean).
  GIVEN WITH THE SEED: the statements are not yours to turn. If you find one false, say at which input.
  Laid BY PROGRAM, IN A SANDBOX (cutbox-rows.mjs): the forced cells as the released guide's own fill.sh prints them over the translation 658ac4ee13490814… (all of the seat's roots in one cut). By AI agents, Wed Nov 11 2026. No macro, syntax, notation, axiom, sorry.
-/
import Derived.Test.YtpbnfcmlcmiieaaGreatDoorChecked
import GoSem.Claim
import GoSem.ClaimJoined
import GoSem.ClaimMapViews
import Derived.JoinedTies
import Derived.KernelRfl
namespace Go.Proofs.YtpbnfcmlcmiieaaGreatDoor
/- THE CELL 'sum', in the pinned program and in every row, IS THE sha256 OF THE DUMP (.gsa) THAT YtpbnfcmlcmiieaaGreatDoorProg.lean LOADS. Nothing in Lean hashes anything: it is a label: what it is worth is what the hold of that sum in a sandbox is worth. -/
noncomputable def Tryz.pinned : Pinned := { name := "ytpbnfcmlcmiieaagreatdoor", sum := "658ac4ee13490814317be027d78fa57be780cf7c44d13df637399f372a9d6dda", checked := Tryz.checked }
namespace Rows
def none {H : Type} : Left H := { results := [], args := [] }

/- WHAT THE LISTED PACKAGE-LEVEL VARIABLES READ AS WHEN THE CALL BEGINS. Each datum BY PROGRAM (the guide's laid-datum.mjs) off the statement by which the dump's own 'gosem.cut.vars' lays the variable. In a bare row this is a premise. The card (YtpbnfcmlcmiieaaGreatDoorCards.lean) ties it to the program's text. -/
def laid_biscotti_date_months {H : Type} : DataW H := .agg [.lit (.string [106, 97, 110]), .lit (.string [102, 101, 98]), .lit (.string [109, 97, 114]), .lit (.string [97, 112, 114]), .lit (.string [109, 97, 121]), .lit (.string [106, 117, 110]), .lit (.string [106, 117, 108]), .lit (.string [97, 117, 103]), .lit (.string [115, 101, 112]), .lit (.string [111, 99, 116]), .lit (.string [110, 111, 118]), .lit (.string [100, 101, 99])]

/-- 'biscottilaw27.StoreRemoves': WHATEVER THE INPUT: true; the input reads as it did. -/
def storeRemovesSpec : ChangeSpec := { name := "storeRemoves", fn := fun _ => fun
  | [d1, d2] => { results := [.lit (.bool true)], args := [d1, d2] }
  | _ => none }
def storeRemovesRow : OpenClaim := { program := "ytpbnfcmlcmiieaagreatdoor", sum := "658ac4ee13490814317be027d78fa57be780cf7c44d13df637399f372a9d6dda", func := "biscotti/biscottilaw27.StoreRemoves", spec := "storeRemoves", inPlace := ["internal/bytealg.IndexByteString", "internal/bytealg.IndexString", "internal/bytealg.CountString", "internal/bytealg.abigen_runtime_cmpstring", "slices.overlaps[biscotti/api.Item]"], unfollowed := true, recurses := true, named := ["biscotti/date.months", "internal/bytealg.MaxLen"], plainKeys := false, apart := false, laid := [("biscotti/date.months", laid_biscotti_date_months)] }
def StoreRemovesSaid : Prop := storeRemovesRow.holds Tryz.pinned (OpenSpec.ofChange storeRemovesSpec)

/-- ITS FALSE NEIGHBOUR: 'it returns false'. Refute it at one input. -/
def storeRemovesWrong : ChangeSpec := { name := "storeRemoves", fn := fun _ => fun
  | [d1, d2] => { results := [.lit (.bool false)], args := [d1, d2] }
  | _ => none }
def StoreRemovesWrongFalsely : Prop := storeRemovesRow.holds Tryz.pinned (OpenSpec.ofChange storeRemovesWrong)

/- THE SECOND FORM. 'bulk': how many values and letters a reading holds, each counted each time it is reached (what is shared counts as often as it is met; a slice's spare places count too). A statement '..UptoSaid' is the law's where the arguments, and the package variables that the reading takes, are together of bulk at most 1048576: NARROWER than '..Said'. Prove '..Said' where nothing that the law and all that it calls make is longer than what came in: it says more and counts as full. Else prove '..UptoSaid'. A law counts once. -/
mutual
def uptoBulk {H : Type} : DataW H → Nat
  | .lit (.string bytes) => bytes.length + 1
  | .lit _ => 1
  | .nil => 1
  | .ptr d => uptoBulk d + 1
  | .slice elems spare => uptoBulkAll elems + uptoBulkAll spare + 1
  | .agg parts => uptoBulkAll parts + 1
  | .iface _ d => uptoBulk d + 1
  | .map entries => uptoBulkEntries entries + 1
  | .held _ => 1
def uptoBulkAll {H : Type} : List (DataW H) → Nat
  | [] => 0
  | d :: r => uptoBulk d + uptoBulkAll r
def uptoBulkEntries {H : Type} : List (Lit × DataW H) → Nat
  | [] => 0
  | x :: r => uptoBulkEntry x + uptoBulkEntries r
def uptoBulkEntry {H : Type} : Lit × DataW H → Nat
  | (.string bytes, d) => bytes.length + uptoBulk d + 1
  | (_, d) => uptoBulk d + 1
 end
def uptoSmall : (H : Type) → List (DataW H) → Bool := fun _ ds => decide (uptoBulkAll ds ≤ 1048576)
def OpenSpec.upto (s : _root_.Go.ChangeSpec) : _root_.Go.OpenSpec := { _root_.Go.OpenSpec.ofChange s with cond := some uptoSmall }

/-- 'biscottilaw27.StoreRemoves', WHERE WHAT IT READS IS OF BULK AT MOST 1048576: true; the input reads as it did. -/
def storeRemovesUptoRow : OpenClaim := { program := "ytpbnfcmlcmiieaagreatdoor", sum := "658ac4ee13490814317be027d78fa57be780cf7c44d13df637399f372a9d6dda", func := "biscotti/biscottilaw27.StoreRemoves", spec := "storeRemoves", inPlace := ["internal/bytealg.IndexByteString", "internal/bytealg.IndexString", "internal/bytealg.CountString", "internal/bytealg.abigen_runtime_cmpstring", "slices.overlaps[biscotti/api.Item]"], unfollowed := true, recurses := true, named := ["biscotti/date.months", "internal/bytealg.MaxLen"], plainKeys := false, apart := false, laid := [("biscotti/date.months", laid_biscotti_date_months)], narrowed := true }
def StoreRemovesUptoSaid : Prop := storeRemovesUptoRow.holds Tryz.pinned (OpenSpec.upto storeRemovesSpec)

end Rows
end Go.Proofs.YtpbnfcmlcmiieaaGreatDoor
