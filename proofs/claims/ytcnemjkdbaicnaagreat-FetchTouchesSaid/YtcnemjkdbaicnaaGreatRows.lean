/-
  No cell of these rows narrows 'for every input' (looked for: loops, veiled, ifaces, maps, wideKeys, modest, calm, conditions, laid).
  DERIVED. THE GIVEN ROWS OF THIS SEAT. 4 by the template 'for every input the law returns true; each argument reads behind the call as it read before'; 0 by the template 'total and deterministic' (their statements: YtcnemjkdbaicnaaGreatTotals.lean).
  GIVEN WITH THE SEED: the statements are not yours to turn. If you find one false, say at which input.
  Laid BY PROGRAM, IN A SANDBOX (cutbox-rows.mjs): the forced cells as the released guide's own fill.sh prints them over the translation 65f5f20478ab7775… (all of the seat's roots in one cut). By AI agents, Wed Nov 11 2026. No macro, syntax, notation, axiom, sorry.
-/
import Derived.Test.YtcnemjkdbaicnaaGreatChecked
import GoSem.Claim
import GoSem.ClaimJoined
import GoSem.ClaimMapViews
import Derived.JoinedTies
import Derived.KernelRfl
namespace Go.Proofs.YtcnemjkdbaicnaaGreat
/- THE CELL 'sum', in the pinned program and in every row, IS THE sha256 OF THE DUMP (.gsa) THAT YtcnemjkdbaicnaaGreatProg.lean LOADS. Nothing in Lean hashes anything: it is a label: what it is worth is what the hold of that sum in a sandbox is worth. -/
noncomputable def Tryz.pinned : Pinned := { name := "ytcnemjkdbaicnaagreat", sum := "65f5f20478ab7775f090173c33b412fd76af9a12880b8da9c2d06a8f30b5aa1b", checked := Tryz.checked }
namespace Rows
def none {H : Type} : Left H := { results := [], args := [] }

/-- 'biscottilaw28.FetchItems': WHATEVER THE INPUT: true; the input reads as it did. -/
def fetchItemsSpec : ChangeSpec := { name := "fetchItems", fn := fun _ => fun
  | [d1, d2, d3] => { results := [.lit (.bool true)], args := [d1, d2, d3] }
  | _ => none }
def fetchItemsRow : OpenClaim := { program := "ytcnemjkdbaicnaagreat", sum := "65f5f20478ab7775f090173c33b412fd76af9a12880b8da9c2d06a8f30b5aa1b", func := "biscotti/biscottilaw28.FetchItems", spec := "fetchItems", inPlace := ["internal/bytealg.IndexByteString", "internal/bytealg.IndexString", "internal/bytealg.abigen_runtime_cmpstring", "internal/abi.NoEscape", "internal/bytealg.MakeNoZero"], unfollowed := true, recurses := true, named := ["internal/bytealg.MaxLen"], plainKeys := false, apart := false }
def FetchItemsSaid : Prop := fetchItemsRow.holds Tryz.pinned (OpenSpec.ofChange fetchItemsSpec)

/-- ITS FALSE NEIGHBOUR: 'it returns false'. Refute it at one input. -/
def fetchItemsWrong : ChangeSpec := { name := "fetchItems", fn := fun _ => fun
  | [d1, d2, d3] => { results := [.lit (.bool false)], args := [d1, d2, d3] }
  | _ => none }
def FetchItemsWrongFalsely : Prop := fetchItemsRow.holds Tryz.pinned (OpenSpec.ofChange fetchItemsWrong)

/-- 'biscottilaw28.FetchPlans': WHATEVER THE INPUT: true; the input reads as it did. -/
def fetchPlansSpec : ChangeSpec := { name := "fetchPlans", fn := fun _ => fun
  | [d1, d2, d3] => { results := [.lit (.bool true)], args := [d1, d2, d3] }
  | _ => none }
def fetchPlansRow : OpenClaim := { program := "ytcnemjkdbaicnaagreat", sum := "65f5f20478ab7775f090173c33b412fd76af9a12880b8da9c2d06a8f30b5aa1b", func := "biscotti/biscottilaw28.FetchPlans", spec := "fetchPlans", inPlace := ["internal/bytealg.IndexByteString", "internal/bytealg.IndexString", "internal/bytealg.abigen_runtime_cmpstring", "internal/abi.NoEscape", "internal/bytealg.MakeNoZero"], unfollowed := true, recurses := true, named := ["internal/bytealg.MaxLen"], plainKeys := false, apart := false }
def FetchPlansSaid : Prop := fetchPlansRow.holds Tryz.pinned (OpenSpec.ofChange fetchPlansSpec)

/-- ITS FALSE NEIGHBOUR: 'it returns false'. Refute it at one input. -/
def fetchPlansWrong : ChangeSpec := { name := "fetchPlans", fn := fun _ => fun
  | [d1, d2, d3] => { results := [.lit (.bool false)], args := [d1, d2, d3] }
  | _ => none }
def FetchPlansWrongFalsely : Prop := fetchPlansRow.holds Tryz.pinned (OpenSpec.ofChange fetchPlansWrong)

/-- 'biscottilaw28.FetchFits': WHATEVER THE INPUT: true; the input reads as it did. -/
def fetchFitsSpec : ChangeSpec := { name := "fetchFits", fn := fun _ => fun
  | [d1, d2, d3] => { results := [.lit (.bool true)], args := [d1, d2, d3] }
  | _ => none }
def fetchFitsRow : OpenClaim := { program := "ytcnemjkdbaicnaagreat", sum := "65f5f20478ab7775f090173c33b412fd76af9a12880b8da9c2d06a8f30b5aa1b", func := "biscotti/biscottilaw28.FetchFits", spec := "fetchFits", inPlace := ["internal/bytealg.IndexByteString", "internal/bytealg.IndexString", "internal/bytealg.abigen_runtime_cmpstring", "internal/abi.NoEscape", "internal/bytealg.MakeNoZero"], unfollowed := true, recurses := true, named := ["internal/bytealg.MaxLen"], plainKeys := false, apart := false }
def FetchFitsSaid : Prop := fetchFitsRow.holds Tryz.pinned (OpenSpec.ofChange fetchFitsSpec)

/-- ITS FALSE NEIGHBOUR: 'it returns false'. Refute it at one input. -/
def fetchFitsWrong : ChangeSpec := { name := "fetchFits", fn := fun _ => fun
  | [d1, d2, d3] => { results := [.lit (.bool false)], args := [d1, d2, d3] }
  | _ => none }
def FetchFitsWrongFalsely : Prop := fetchFitsRow.holds Tryz.pinned (OpenSpec.ofChange fetchFitsWrong)

/-- 'biscottilaw28.FetchTouches': WHATEVER THE INPUT: true; the input reads as it did. -/
def fetchTouchesSpec : ChangeSpec := { name := "fetchTouches", fn := fun _ => fun
  | [d1, d2, d3] => { results := [.lit (.bool true)], args := [d1, d2, d3] }
  | _ => none }
def fetchTouchesRow : OpenClaim := { program := "ytcnemjkdbaicnaagreat", sum := "65f5f20478ab7775f090173c33b412fd76af9a12880b8da9c2d06a8f30b5aa1b", func := "biscotti/biscottilaw28.FetchTouches", spec := "fetchTouches", inPlace := ["internal/bytealg.IndexByteString", "internal/bytealg.IndexString", "internal/bytealg.abigen_runtime_cmpstring", "internal/abi.NoEscape", "internal/bytealg.MakeNoZero"], unfollowed := true, recurses := true, named := ["internal/bytealg.MaxLen"], plainKeys := false, apart := false }
def FetchTouchesSaid : Prop := fetchTouchesRow.holds Tryz.pinned (OpenSpec.ofChange fetchTouchesSpec)

/-- ITS FALSE NEIGHBOUR: 'it returns false'. Refute it at one input. -/
def fetchTouchesWrong : ChangeSpec := { name := "fetchTouches", fn := fun _ => fun
  | [d1, d2, d3] => { results := [.lit (.bool false)], args := [d1, d2, d3] }
  | _ => none }
def FetchTouchesWrongFalsely : Prop := fetchTouchesRow.holds Tryz.pinned (OpenSpec.ofChange fetchTouchesWrong)

/- THE SECOND FORM. 'bulk': how many values and letters a reading holds, each counted each time it is reached (what is shared counts as often as it is met; a slice's spare places count too). A statement '..UptoSaid' is the law's where the arguments, and the package variables that the reading takes, are together of bulk at most 1048576: NARROWER than '..Said'. Prove '..Said' where nothing that the law and all that it calls make is longer than what came in: it says more and counts as full. Else prove '..UptoSaid'. A law counts once. -/
mutual
def uptoBulk {H : Type} : DataW H → Nat
  | .lit (.string bytes) => bytes.length + 1
  | .lit _ => 1
  | .nil => 1
  | .ptr d => uptoBulk d + 1
  | .slice elems spare => uptoBulkAll elems + uptoBulkAll spare + 1
  | .agg parts => uptoBulkAll parts + 1
  | .iface _ d => uptoBulk d + 1
  | .map entries => uptoBulkEntries entries + 1
  | .held _ => 1
def uptoBulkAll {H : Type} : List (DataW H) → Nat
  | [] => 0
  | d :: r => uptoBulk d + uptoBulkAll r
def uptoBulkEntries {H : Type} : List (Lit × DataW H) → Nat
  | [] => 0
  | x :: r => uptoBulkEntry x + uptoBulkEntries r
def uptoBulkEntry {H : Type} : Lit × DataW H → Nat
  | (.string bytes, d) => bytes.length + uptoBulk d + 1
  | (_, d) => uptoBulk d + 1
 end
def uptoSmall : (H : Type) → List (DataW H) → Bool := fun _ ds => decide (uptoBulkAll ds ≤ 1048576)
def OpenSpec.upto (s : _root_.Go.ChangeSpec) : _root_.Go.OpenSpec := { _root_.Go.OpenSpec.ofChange s with cond := some uptoSmall }

/-- 'biscottilaw28.FetchItems', WHERE WHAT IT READS IS OF BULK AT MOST 1048576: true; the input reads as it did. -/
def fetchItemsUptoRow : OpenClaim := { program := "ytcnemjkdbaicnaagreat", sum := "65f5f20478ab7775f090173c33b412fd76af9a12880b8da9c2d06a8f30b5aa1b", func := "biscotti/biscottilaw28.FetchItems", spec := "fetchItems", inPlace := ["internal/bytealg.IndexByteString", "internal/bytealg.IndexString", "internal/bytealg.abigen_runtime_cmpstring", "internal/abi.NoEscape", "internal/bytealg.MakeNoZero"], unfollowed := true, recurses := true, named := ["internal/bytealg.MaxLen"], plainKeys := false, apart := false, narrowed := true }
def FetchItemsUptoSaid : Prop := fetchItemsUptoRow.holds Tryz.pinned (OpenSpec.upto fetchItemsSpec)

/-- 'biscottilaw28.FetchPlans', WHERE WHAT IT READS IS OF BULK AT MOST 1048576: true; the input reads as it did. -/
def fetchPlansUptoRow : OpenClaim := { program := "ytcnemjkdbaicnaagreat", sum := "65f5f20478ab7775f090173c33b412fd76af9a12880b8da9c2d06a8f30b5aa1b", func := "biscotti/biscottilaw28.FetchPlans", spec := "fetchPlans", inPlace := ["internal/bytealg.IndexByteString", "internal/bytealg.IndexString", "internal/bytealg.abigen_runtime_cmpstring", "internal/abi.NoEscape", "internal/bytealg.MakeNoZero"], unfollowed := true, recurses := true, named := ["internal/bytealg.MaxLen"], plainKeys := false, apart := false, narrowed := true }
def FetchPlansUptoSaid : Prop := fetchPlansUptoRow.holds Tryz.pinned (OpenSpec.upto fetchPlansSpec)

/-- 'biscottilaw28.FetchFits', WHERE WHAT IT READS IS OF BULK AT MOST 1048576: true; the input reads as it did. -/
def fetchFitsUptoRow : OpenClaim := { program := "ytcnemjkdbaicnaagreat", sum := "65f5f20478ab7775f090173c33b412fd76af9a12880b8da9c2d06a8f30b5aa1b", func := "biscotti/biscottilaw28.FetchFits", spec := "fetchFits", inPlace := ["internal/bytealg.IndexByteString", "internal/bytealg.IndexString", "internal/bytealg.abigen_runtime_cmpstring", "internal/abi.NoEscape", "internal/bytealg.MakeNoZero"], unfollowed := true, recurses := true, named := ["internal/bytealg.MaxLen"], plainKeys := false, apart := false, narrowed := true }
def FetchFitsUptoSaid : Prop := fetchFitsUptoRow.holds Tryz.pinned (OpenSpec.upto fetchFitsSpec)

/-- 'biscottilaw28.FetchTouches', WHERE WHAT IT READS IS OF BULK AT MOST 1048576: true; the input reads as it did. -/
def fetchTouchesUptoRow : OpenClaim := { program := "ytcnemjkdbaicnaagreat", sum := "65f5f20478ab7775f090173c33b412fd76af9a12880b8da9c2d06a8f30b5aa1b", func := "biscotti/biscottilaw28.FetchTouches", spec := "fetchTouches", inPlace := ["internal/bytealg.IndexByteString", "internal/bytealg.IndexString", "internal/bytealg.abigen_runtime_cmpstring", "internal/abi.NoEscape", "internal/bytealg.MakeNoZero"], unfollowed := true, recurses := true, named := ["internal/bytealg.MaxLen"], plainKeys := false, apart := false, narrowed := true }
def FetchTouchesUptoSaid : Prop := fetchTouchesUptoRow.holds Tryz.pinned (OpenSpec.upto fetchTouchesSpec)

end Rows
end Go.Proofs.YtcnemjkdbaicnaaGreat
