/-
  No cell of these rows narrows 'for every input' (looked for: loops, veiled, ifaces, maps, wideKeys, modest, calm, conditions, laid).
  DERIVED. THE GIVEN ROWS OF THIS SEAT. 9 by the template 'for every input the law returns true; each argument reads behind the call as it read before'; 0 by the template 'total and deterministic' (their statements: YtmfohfbdddlilaaGreatTotals.lean).
  GIVEN WITH THE SEED: the statements are not yours to turn. If you find one false, say at which input.
  Laid BY PROGRAM, IN A SANDBOX (cutbox-rows.mjs): the forced cells as the released guide's own fill.sh prints them over the translation bce99da982f37dde… (all of the seat's roots in one cut). By AI agents, Wed Nov 11 2026. No macro, syntax, notation, axiom, sorry.
-/
import Derived.Test.YtmfohfbdddlilaaGreatChecked
import GoSem.Claim
import GoSem.ClaimJoined
import GoSem.ClaimMapViews
import Derived.JoinedTies
import Derived.KernelRfl
namespace Go.Proofs.YtmfohfbdddlilaaGreat
/- THE CELL 'sum', in the pinned program and in every row, IS THE sha256 OF THE DUMP (.gsa) THAT YtmfohfbdddlilaaGreatProg.lean LOADS. Nothing in Lean hashes anything: it is a label: what it is worth is what the hold of that sum in a sandbox is worth. -/
noncomputable def Tryz.pinned : Pinned := { name := "ytmfohfbdddlilaagreat", sum := "bce99da982f37ddeff2900e0cd1c4700cc96a365ec15fc1181cc766b0bd2554e", checked := Tryz.checked }
namespace Rows
def none {H : Type} : Left H := { results := [], args := [] }

/-- 'biscottilaw25.ViewGets': WHATEVER THE INPUT: true; the input reads as it did. -/
def viewGetsSpec : ChangeSpec := { name := "viewGets", fn := fun _ => fun
  | [d1, d2, d3] => { results := [.lit (.bool true)], args := [d1, d2, d3] }
  | _ => none }
def viewGetsRow : OpenClaim := { program := "ytmfohfbdddlilaagreat", sum := "bce99da982f37ddeff2900e0cd1c4700cc96a365ec15fc1181cc766b0bd2554e", func := "biscotti/biscottilaw25.ViewGets", spec := "viewGets", inPlace := ["internal/bytealg.abigen_runtime_cmpstring"], unfollowed := true, recurses := true, plainKeys := false, apart := false }
def ViewGetsSaid : Prop := viewGetsRow.holds Tryz.pinned (OpenSpec.ofChange viewGetsSpec)

/-- ITS FALSE NEIGHBOUR: 'it returns false'. Refute it at one input. -/
def viewGetsWrong : ChangeSpec := { name := "viewGets", fn := fun _ => fun
  | [d1, d2, d3] => { results := [.lit (.bool false)], args := [d1, d2, d3] }
  | _ => none }
def ViewGetsWrongFalsely : Prop := viewGetsRow.holds Tryz.pinned (OpenSpec.ofChange viewGetsWrong)

/-- 'biscottilaw25.ViewItems': WHATEVER THE INPUT: true; the input reads as it did. -/
def viewItemsSpec : ChangeSpec := { name := "viewItems", fn := fun _ => fun
  | [d1, d2] => { results := [.lit (.bool true)], args := [d1, d2] }
  | _ => none }
def viewItemsRow : OpenClaim := { program := "ytmfohfbdddlilaagreat", sum := "bce99da982f37ddeff2900e0cd1c4700cc96a365ec15fc1181cc766b0bd2554e", func := "biscotti/biscottilaw25.ViewItems", spec := "viewItems", inPlace := ["internal/bytealg.abigen_runtime_cmpstring"], unfollowed := true, recurses := true, plainKeys := false, apart := false }
def ViewItemsSaid : Prop := viewItemsRow.holds Tryz.pinned (OpenSpec.ofChange viewItemsSpec)

/-- ITS FALSE NEIGHBOUR: 'it returns false'. Refute it at one input. -/
def viewItemsWrong : ChangeSpec := { name := "viewItems", fn := fun _ => fun
  | [d1, d2] => { results := [.lit (.bool false)], args := [d1, d2] }
  | _ => none }
def ViewItemsWrongFalsely : Prop := viewItemsRow.holds Tryz.pinned (OpenSpec.ofChange viewItemsWrong)

/-- 'biscottilaw29.SessionEnds': WHATEVER THE INPUT: true; the input reads as it did. -/
def sessionEndsSpec : ChangeSpec := { name := "sessionEnds", fn := fun _ => fun
  | [d] => { results := [.lit (.bool true)], args := [d] }
  | _ => none }
def sessionEndsRow : OpenClaim := { program := "ytmfohfbdddlilaagreat", sum := "bce99da982f37ddeff2900e0cd1c4700cc96a365ec15fc1181cc766b0bd2554e", func := "biscotti/biscottilaw29.SessionEnds", spec := "sessionEnds", inPlace := ["internal/bytealg.abigen_runtime_cmpstring"], unfollowed := true, recurses := true, plainKeys := false, apart := false }
def SessionEndsSaid : Prop := sessionEndsRow.holds Tryz.pinned (OpenSpec.ofChange sessionEndsSpec)

/-- ITS FALSE NEIGHBOUR: 'it returns false'. Refute it at one input. -/
def sessionEndsWrong : ChangeSpec := { name := "sessionEnds", fn := fun _ => fun
  | [d] => { results := [.lit (.bool false)], args := [d] }
  | _ => none }
def SessionEndsWrongFalsely : Prop := sessionEndsRow.holds Tryz.pinned (OpenSpec.ofChange sessionEndsWrong)

/-- 'biscottilaw26.EvictLimits': WHATEVER THE INPUT: true; the input reads as it did. -/
def evictLimitsSpec : ChangeSpec := { name := "evictLimits", fn := fun _ => fun
  | [d1, d2, d3] => { results := [.lit (.bool true)], args := [d1, d2, d3] }
  | _ => none }
def evictLimitsRow : OpenClaim := { program := "ytmfohfbdddlilaagreat", sum := "bce99da982f37ddeff2900e0cd1c4700cc96a365ec15fc1181cc766b0bd2554e", func := "biscotti/biscottilaw26.EvictLimits", spec := "evictLimits", inPlace := ["internal/bytealg.abigen_runtime_cmpstring"], unfollowed := true, recurses := true, plainKeys := false, apart := false }
def EvictLimitsSaid : Prop := evictLimitsRow.holds Tryz.pinned (OpenSpec.ofChange evictLimitsSpec)

/-- ITS FALSE NEIGHBOUR: 'it returns false'. Refute it at one input. -/
def evictLimitsWrong : ChangeSpec := { name := "evictLimits", fn := fun _ => fun
  | [d1, d2, d3] => { results := [.lit (.bool false)], args := [d1, d2, d3] }
  | _ => none }
def EvictLimitsWrongFalsely : Prop := evictLimitsRow.holds Tryz.pinned (OpenSpec.ofChange evictLimitsWrong)

/-- 'biscottilaw26.EvictFew': WHATEVER THE INPUT: true; the input reads as it did. -/
def evictFewSpec : ChangeSpec := { name := "evictFew", fn := fun _ => fun
  | [d1, d2, d3] => { results := [.lit (.bool true)], args := [d1, d2, d3] }
  | _ => none }
def evictFewRow : OpenClaim := { program := "ytmfohfbdddlilaagreat", sum := "bce99da982f37ddeff2900e0cd1c4700cc96a365ec15fc1181cc766b0bd2554e", func := "biscotti/biscottilaw26.EvictFew", spec := "evictFew", inPlace := ["internal/bytealg.abigen_runtime_cmpstring"], unfollowed := true, recurses := true, plainKeys := false, apart := false }
def EvictFewSaid : Prop := evictFewRow.holds Tryz.pinned (OpenSpec.ofChange evictFewSpec)

/-- ITS FALSE NEIGHBOUR: 'it returns false'. Refute it at one input. -/
def evictFewWrong : ChangeSpec := { name := "evictFew", fn := fun _ => fun
  | [d1, d2, d3] => { results := [.lit (.bool false)], args := [d1, d2, d3] }
  | _ => none }
def EvictFewWrongFalsely : Prop := evictFewRow.holds Tryz.pinned (OpenSpec.ofChange evictFewWrong)

/-- 'biscottilaw26.EvictGone': WHATEVER THE INPUT: true; the input reads as it did. -/
def evictGoneSpec : ChangeSpec := { name := "evictGone", fn := fun _ => fun
  | [d1, d2, d3] => { results := [.lit (.bool true)], args := [d1, d2, d3] }
  | _ => none }
def evictGoneRow : OpenClaim := { program := "ytmfohfbdddlilaagreat", sum := "bce99da982f37ddeff2900e0cd1c4700cc96a365ec15fc1181cc766b0bd2554e", func := "biscotti/biscottilaw26.EvictGone", spec := "evictGone", inPlace := ["internal/bytealg.abigen_runtime_cmpstring"], unfollowed := true, recurses := true, plainKeys := false, apart := false }
def EvictGoneSaid : Prop := evictGoneRow.holds Tryz.pinned (OpenSpec.ofChange evictGoneSpec)

/-- ITS FALSE NEIGHBOUR: 'it returns false'. Refute it at one input. -/
def evictGoneWrong : ChangeSpec := { name := "evictGone", fn := fun _ => fun
  | [d1, d2, d3] => { results := [.lit (.bool false)], args := [d1, d2, d3] }
  | _ => none }
def EvictGoneWrongFalsely : Prop := evictGoneRow.holds Tryz.pinned (OpenSpec.ofChange evictGoneWrong)

/-- 'biscottilaw25.ViewLists': WHATEVER THE INPUT: true; the input reads as it did. -/
def viewListsSpec : ChangeSpec := { name := "viewLists", fn := fun _ => fun
  | [d1, d2] => { results := [.lit (.bool true)], args := [d1, d2] }
  | _ => none }
def viewListsRow : OpenClaim := { program := "ytmfohfbdddlilaagreat", sum := "bce99da982f37ddeff2900e0cd1c4700cc96a365ec15fc1181cc766b0bd2554e", func := "biscotti/biscottilaw25.ViewLists", spec := "viewLists", inPlace := ["internal/bytealg.abigen_runtime_cmpstring", "slices.overlaps[biscotti/api.Item]"], unfollowed := true, recurses := true, plainKeys := false, apart := false }
def ViewListsSaid : Prop := viewListsRow.holds Tryz.pinned (OpenSpec.ofChange viewListsSpec)

/-- ITS FALSE NEIGHBOUR: 'it returns false'. Refute it at one input. -/
def viewListsWrong : ChangeSpec := { name := "viewLists", fn := fun _ => fun
  | [d1, d2] => { results := [.lit (.bool false)], args := [d1, d2] }
  | _ => none }
def ViewListsWrongFalsely : Prop := viewListsRow.holds Tryz.pinned (OpenSpec.ofChange viewListsWrong)

/-- 'biscottilaw29.SessionPurges': WHATEVER THE INPUT: true; the input reads as it did. -/
def sessionPurgesSpec : ChangeSpec := { name := "sessionPurges", fn := fun _ => fun
  | [d1, d2] => { results := [.lit (.bool true)], args := [d1, d2] }
  | _ => none }
def sessionPurgesRow : OpenClaim := { program := "ytmfohfbdddlilaagreat", sum := "bce99da982f37ddeff2900e0cd1c4700cc96a365ec15fc1181cc766b0bd2554e", func := "biscotti/biscottilaw29.SessionPurges", spec := "sessionPurges", inPlace := ["internal/bytealg.abigen_runtime_cmpstring"], unfollowed := true, recurses := true, plainKeys := false, apart := false }
def SessionPurgesSaid : Prop := sessionPurgesRow.holds Tryz.pinned (OpenSpec.ofChange sessionPurgesSpec)

/-- ITS FALSE NEIGHBOUR: 'it returns false'. Refute it at one input. -/
def sessionPurgesWrong : ChangeSpec := { name := "sessionPurges", fn := fun _ => fun
  | [d1, d2] => { results := [.lit (.bool false)], args := [d1, d2] }
  | _ => none }
def SessionPurgesWrongFalsely : Prop := sessionPurgesRow.holds Tryz.pinned (OpenSpec.ofChange sessionPurgesWrong)

/-- 'biscottilaw29.SessionPlans': WHATEVER THE INPUT: true; the input reads as it did. -/
def sessionPlansSpec : ChangeSpec := { name := "sessionPlans", fn := fun _ => fun
  | [d1, d2, d3] => { results := [.lit (.bool true)], args := [d1, d2, d3] }
  | _ => none }
def sessionPlansRow : OpenClaim := { program := "ytmfohfbdddlilaagreat", sum := "bce99da982f37ddeff2900e0cd1c4700cc96a365ec15fc1181cc766b0bd2554e", func := "biscotti/biscottilaw29.SessionPlans", spec := "sessionPlans", inPlace := ["internal/bytealg.abigen_runtime_cmpstring"], unfollowed := true, recurses := true, plainKeys := false, apart := false }
def SessionPlansSaid : Prop := sessionPlansRow.holds Tryz.pinned (OpenSpec.ofChange sessionPlansSpec)

/-- ITS FALSE NEIGHBOUR: 'it returns false'. Refute it at one input. -/
def sessionPlansWrong : ChangeSpec := { name := "sessionPlans", fn := fun _ => fun
  | [d1, d2, d3] => { results := [.lit (.bool false)], args := [d1, d2, d3] }
  | _ => none }
def SessionPlansWrongFalsely : Prop := sessionPlansRow.holds Tryz.pinned (OpenSpec.ofChange sessionPlansWrong)

/- THE SECOND FORM. 'bulk': how many values and letters a reading holds, each counted each time it is reached (what is shared counts as often as it is met; a slice's spare places count too). A statement '..UptoSaid' is the law's where the arguments, and the package variables that the reading takes, are together of bulk at most 1048576: NARROWER than '..Said'. Prove '..Said' where nothing that the law and all that it calls make is longer than what came in: it says more and counts as full. Else prove '..UptoSaid'. A law counts once. -/
mutual
def uptoBulk {H : Type} : DataW H → Nat
  | .lit (.string bytes) => bytes.length + 1
  | .lit _ => 1
  | .nil => 1
  | .ptr d => uptoBulk d + 1
  | .slice elems spare => uptoBulkAll elems + uptoBulkAll spare + 1
  | .agg parts => uptoBulkAll parts + 1
  | .iface _ d => uptoBulk d + 1
  | .map entries => uptoBulkEntries entries + 1
  | .held _ => 1
def uptoBulkAll {H : Type} : List (DataW H) → Nat
  | [] => 0
  | d :: r => uptoBulk d + uptoBulkAll r
def uptoBulkEntries {H : Type} : List (Lit × DataW H) → Nat
  | [] => 0
  | x :: r => uptoBulkEntry x + uptoBulkEntries r
def uptoBulkEntry {H : Type} : Lit × DataW H → Nat
  | (.string bytes, d) => bytes.length + uptoBulk d + 1
  | (_, d) => uptoBulk d + 1
 end
def uptoSmall : (H : Type) → List (DataW H) → Bool := fun _ ds => decide (uptoBulkAll ds ≤ 1048576)
def OpenSpec.upto (s : _root_.Go.ChangeSpec) : _root_.Go.OpenSpec := { _root_.Go.OpenSpec.ofChange s with cond := some uptoSmall }

/-- 'biscottilaw25.ViewGets', WHERE WHAT IT READS IS OF BULK AT MOST 1048576: true; the input reads as it did. -/
def viewGetsUptoRow : OpenClaim := { program := "ytmfohfbdddlilaagreat", sum := "bce99da982f37ddeff2900e0cd1c4700cc96a365ec15fc1181cc766b0bd2554e", func := "biscotti/biscottilaw25.ViewGets", spec := "viewGets", inPlace := ["internal/bytealg.abigen_runtime_cmpstring"], unfollowed := true, recurses := true, plainKeys := false, apart := false, narrowed := true }
def ViewGetsUptoSaid : Prop := viewGetsUptoRow.holds Tryz.pinned (OpenSpec.upto viewGetsSpec)

/-- 'biscottilaw25.ViewItems', WHERE WHAT IT READS IS OF BULK AT MOST 1048576: true; the input reads as it did. -/
def viewItemsUptoRow : OpenClaim := { program := "ytmfohfbdddlilaagreat", sum := "bce99da982f37ddeff2900e0cd1c4700cc96a365ec15fc1181cc766b0bd2554e", func := "biscotti/biscottilaw25.ViewItems", spec := "viewItems", inPlace := ["internal/bytealg.abigen_runtime_cmpstring"], unfollowed := true, recurses := true, plainKeys := false, apart := false, narrowed := true }
def ViewItemsUptoSaid : Prop := viewItemsUptoRow.holds Tryz.pinned (OpenSpec.upto viewItemsSpec)

/-- 'biscottilaw29.SessionEnds', WHERE WHAT IT READS IS OF BULK AT MOST 1048576: true; the input reads as it did. -/
def sessionEndsUptoRow : OpenClaim := { program := "ytmfohfbdddlilaagreat", sum := "bce99da982f37ddeff2900e0cd1c4700cc96a365ec15fc1181cc766b0bd2554e", func := "biscotti/biscottilaw29.SessionEnds", spec := "sessionEnds", inPlace := ["internal/bytealg.abigen_runtime_cmpstring"], unfollowed := true, recurses := true, plainKeys := false, apart := false, narrowed := true }
def SessionEndsUptoSaid : Prop := sessionEndsUptoRow.holds Tryz.pinned (OpenSpec.upto sessionEndsSpec)

/-- 'biscottilaw26.EvictLimits', WHERE WHAT IT READS IS OF BULK AT MOST 1048576: true; the input reads as it did. -/
def evictLimitsUptoRow : OpenClaim := { program := "ytmfohfbdddlilaagreat", sum := "bce99da982f37ddeff2900e0cd1c4700cc96a365ec15fc1181cc766b0bd2554e", func := "biscotti/biscottilaw26.EvictLimits", spec := "evictLimits", inPlace := ["internal/bytealg.abigen_runtime_cmpstring"], unfollowed := true, recurses := true, plainKeys := false, apart := false, narrowed := true }
def EvictLimitsUptoSaid : Prop := evictLimitsUptoRow.holds Tryz.pinned (OpenSpec.upto evictLimitsSpec)

/-- 'biscottilaw26.EvictFew', WHERE WHAT IT READS IS OF BULK AT MOST 1048576: true; the input reads as it did. -/
def evictFewUptoRow : OpenClaim := { program := "ytmfohfbdddlilaagreat", sum := "bce99da982f37ddeff2900e0cd1c4700cc96a365ec15fc1181cc766b0bd2554e", func := "biscotti/biscottilaw26.EvictFew", spec := "evictFew", inPlace := ["internal/bytealg.abigen_runtime_cmpstring"], unfollowed := true, recurses := true, plainKeys := false, apart := false, narrowed := true }
def EvictFewUptoSaid : Prop := evictFewUptoRow.holds Tryz.pinned (OpenSpec.upto evictFewSpec)

/-- 'biscottilaw26.EvictGone', WHERE WHAT IT READS IS OF BULK AT MOST 1048576: true; the input reads as it did. -/
def evictGoneUptoRow : OpenClaim := { program := "ytmfohfbdddlilaagreat", sum := "bce99da982f37ddeff2900e0cd1c4700cc96a365ec15fc1181cc766b0bd2554e", func := "biscotti/biscottilaw26.EvictGone", spec := "evictGone", inPlace := ["internal/bytealg.abigen_runtime_cmpstring"], unfollowed := true, recurses := true, plainKeys := false, apart := false, narrowed := true }
def EvictGoneUptoSaid : Prop := evictGoneUptoRow.holds Tryz.pinned (OpenSpec.upto evictGoneSpec)

/-- 'biscottilaw25.ViewLists', WHERE WHAT IT READS IS OF BULK AT MOST 1048576: true; the input reads as it did. -/
def viewListsUptoRow : OpenClaim := { program := "ytmfohfbdddlilaagreat", sum := "bce99da982f37ddeff2900e0cd1c4700cc96a365ec15fc1181cc766b0bd2554e", func := "biscotti/biscottilaw25.ViewLists", spec := "viewLists", inPlace := ["internal/bytealg.abigen_runtime_cmpstring", "slices.overlaps[biscotti/api.Item]"], unfollowed := true, recurses := true, plainKeys := false, apart := false, narrowed := true }
def ViewListsUptoSaid : Prop := viewListsUptoRow.holds Tryz.pinned (OpenSpec.upto viewListsSpec)

/-- 'biscottilaw29.SessionPurges', WHERE WHAT IT READS IS OF BULK AT MOST 1048576: true; the input reads as it did. -/
def sessionPurgesUptoRow : OpenClaim := { program := "ytmfohfbdddlilaagreat", sum := "bce99da982f37ddeff2900e0cd1c4700cc96a365ec15fc1181cc766b0bd2554e", func := "biscotti/biscottilaw29.SessionPurges", spec := "sessionPurges", inPlace := ["internal/bytealg.abigen_runtime_cmpstring"], unfollowed := true, recurses := true, plainKeys := false, apart := false, narrowed := true }
def SessionPurgesUptoSaid : Prop := sessionPurgesUptoRow.holds Tryz.pinned (OpenSpec.upto sessionPurgesSpec)

/-- 'biscottilaw29.SessionPlans', WHERE WHAT IT READS IS OF BULK AT MOST 1048576: true; the input reads as it did. -/
def sessionPlansUptoRow : OpenClaim := { program := "ytmfohfbdddlilaagreat", sum := "bce99da982f37ddeff2900e0cd1c4700cc96a365ec15fc1181cc766b0bd2554e", func := "biscotti/biscottilaw29.SessionPlans", spec := "sessionPlans", inPlace := ["internal/bytealg.abigen_runtime_cmpstring"], unfollowed := true, recurses := true, plainKeys := false, apart := false, narrowed := true }
def SessionPlansUptoSaid : Prop := sessionPlansUptoRow.holds Tryz.pinned (OpenSpec.upto sessionPlansSpec)

end Rows
end Go.Proofs.YtmfohfbdddlilaaGreat
