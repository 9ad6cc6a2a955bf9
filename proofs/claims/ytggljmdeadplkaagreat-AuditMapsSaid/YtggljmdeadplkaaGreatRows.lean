/-
  No cell of these rows narrows 'for every input' (looked for: loops, veiled, ifaces, maps, wideKeys, modest, calm, conditions, laid).
  DERIVED. THE GIVEN ROWS OF THIS SEAT. 2 by the template 'for every input the law returns true; each argument reads behind the call as it read before'; 0 by the template 'total and deterministic' (their statements: YtggljmdeadplkaaGreatTotals.lean).
  GIVEN WITH THE SEED: the statements are not yours to turn. If you find one false, say at which input.
  Laid BY PROGRAM, IN A SANDBOX (cutbox-rows.mjs): the forced cells as the released guide's own fill.sh prints them over the translation b9eb4ae03c389f26… (all of the seat's roots in one cut). By AI agents, Wed Nov 11 2026. No macro, syntax, notation, axiom, sorry.
-/
import Derived.Test.YtggljmdeadplkaaGreatChecked
import GoSem.Claim
import GoSem.ClaimJoined
import GoSem.ClaimMapViews
import Derived.JoinedTies
import Derived.KernelRfl
namespace Go.Proofs.YtggljmdeadplkaaGreat
/- THE CELL 'sum', in the pinned program and in every row, IS THE sha256 OF THE DUMP (.gsa) THAT YtggljmdeadplkaaGreatProg.lean LOADS. Nothing in Lean hashes anything: it is a label: what it is worth is what the hold of that sum in a sandbox is worth. -/
noncomputable def Tryz.pinned : Pinned := { name := "ytggljmdeadplkaagreat", sum := "b9eb4ae03c389f26bf579085074fda1e653b84719f62a17b2d63b9945726c7a0", checked := Tryz.checked }
namespace Rows
def none {H : Type} : Left H := { results := [], args := [] }

/-- 'biscottilaw44.AuditItems': WHATEVER THE INPUT: true; the input reads as it did. -/
def auditItemsSpec : ChangeSpec := { name := "auditItems", fn := fun _ => fun
  | [d1, d2, d3] => { results := [.lit (.bool true)], args := [d1, d2, d3] }
  | _ => none }
def auditItemsRow : OpenClaim := { program := "ytggljmdeadplkaagreat", sum := "b9eb4ae03c389f26bf579085074fda1e653b84719f62a17b2d63b9945726c7a0", func := "biscotti/biscottilaw44.AuditItems", spec := "auditItems", inPlace := ["internal/bytealg.abigen_runtime_cmpstring", "internal/bytealg.CountString", "internal/bytealg.IndexByteString", "internal/bytealg.IndexString"], unfollowed := true, recurses := true, named := ["internal/bytealg.MaxLen"], plainKeys := false, apart := false }
def AuditItemsSaid : Prop := auditItemsRow.holds Tryz.pinned (OpenSpec.ofChange auditItemsSpec)

/-- ITS FALSE NEIGHBOUR: 'it returns false'. Refute it at one input. -/
def auditItemsWrong : ChangeSpec := { name := "auditItems", fn := fun _ => fun
  | [d1, d2, d3] => { results := [.lit (.bool false)], args := [d1, d2, d3] }
  | _ => none }
def AuditItemsWrongFalsely : Prop := auditItemsRow.holds Tryz.pinned (OpenSpec.ofChange auditItemsWrong)

/-- 'biscottilaw44.AuditMaps': WHATEVER THE INPUT: true; the input reads as it did. -/
def auditMapsSpec : ChangeSpec := { name := "auditMaps", fn := fun _ => fun
  | [d1, d2] => { results := [.lit (.bool true)], args := [d1, d2] }
  | _ => none }
def auditMapsRow : OpenClaim := { program := "ytggljmdeadplkaagreat", sum := "b9eb4ae03c389f26bf579085074fda1e653b84719f62a17b2d63b9945726c7a0", func := "biscotti/biscottilaw44.AuditMaps", spec := "auditMaps", inPlace := ["internal/bytealg.abigen_runtime_cmpstring", "internal/bytealg.CountString", "internal/bytealg.IndexByteString", "internal/bytealg.IndexString"], unfollowed := true, recurses := true, named := ["internal/bytealg.MaxLen"], plainKeys := false, apart := false }
def AuditMapsSaid : Prop := auditMapsRow.holds Tryz.pinned (OpenSpec.ofChange auditMapsSpec)

/-- ITS FALSE NEIGHBOUR: 'it returns false'. Refute it at one input. -/
def auditMapsWrong : ChangeSpec := { name := "auditMaps", fn := fun _ => fun
  | [d1, d2] => { results := [.lit (.bool false)], args := [d1, d2] }
  | _ => none }
def AuditMapsWrongFalsely : Prop := auditMapsRow.holds Tryz.pinned (OpenSpec.ofChange auditMapsWrong)

/- THE SECOND FORM. 'bulk': how many values and letters a reading holds, each counted each time it is reached (what is shared counts as often as it is met; a slice's spare places count too). A statement '..UptoSaid' is the law's where the arguments, and the package variables that the reading takes, are together of bulk at most 1048576: NARROWER than '..Said'. Prove '..Said' where nothing that the law and all that it calls make is longer than what came in: it says more and counts as full. Else prove '..UptoSaid'. A law counts once. -/
mutual
def uptoBulk {H : Type} : DataW H → Nat
  | .lit (.string bytes) => bytes.length + 1
  | .lit _ => 1
  | .nil => 1
  | .ptr d => uptoBulk d + 1
  | .slice elems spare => uptoBulkAll elems + uptoBulkAll spare + 1
  | .agg parts => uptoBulkAll parts + 1
  | .iface _ d => uptoBulk d + 1
  | .map entries => uptoBulkEntries entries + 1
  | .held _ => 1
def uptoBulkAll {H : Type} : List (DataW H) → Nat
  | [] => 0
  | d :: r => uptoBulk d + uptoBulkAll r
def uptoBulkEntries {H : Type} : List (Lit × DataW H) → Nat
  | [] => 0
  | x :: r => uptoBulkEntry x + uptoBulkEntries r
def uptoBulkEntry {H : Type} : Lit × DataW H → Nat
  | (.string bytes, d) => bytes.length + uptoBulk d + 1
  | (_, d) => uptoBulk d + 1
 end
def uptoSmall : (H : Type) → List (DataW H) → Bool := fun _ ds => decide (uptoBulkAll ds ≤ 1048576)
def OpenSpec.upto (s : _root_.Go.ChangeSpec) : _root_.Go.OpenSpec := { _root_.Go.OpenSpec.ofChange s with cond := some uptoSmall }

/-- 'biscottilaw44.AuditItems', WHERE WHAT IT READS IS OF BULK AT MOST 1048576: true; the input reads as it did. -/
def auditItemsUptoRow : OpenClaim := { program := "ytggljmdeadplkaagreat", sum := "b9eb4ae03c389f26bf579085074fda1e653b84719f62a17b2d63b9945726c7a0", func := "biscotti/biscottilaw44.AuditItems", spec := "auditItems", inPlace := ["internal/bytealg.abigen_runtime_cmpstring", "internal/bytealg.CountString", "internal/bytealg.IndexByteString", "internal/bytealg.IndexString"], unfollowed := true, recurses := true, named := ["internal/bytealg.MaxLen"], plainKeys := false, apart := false, narrowed := true }
def AuditItemsUptoSaid : Prop := auditItemsUptoRow.holds Tryz.pinned (OpenSpec.upto auditItemsSpec)

/-- 'biscottilaw44.AuditMaps', WHERE WHAT IT READS IS OF BULK AT MOST 1048576: true; the input reads as it did. -/
def auditMapsUptoRow : OpenClaim := { program := "ytggljmdeadplkaagreat", sum := "b9eb4ae03c389f26bf579085074fda1e653b84719f62a17b2d63b9945726c7a0", func := "biscotti/biscottilaw44.AuditMaps", spec := "auditMaps", inPlace := ["internal/bytealg.abigen_runtime_cmpstring", "internal/bytealg.CountString", "internal/bytealg.IndexByteString", "internal/bytealg.IndexString"], unfollowed := true, recurses := true, named := ["internal/bytealg.MaxLen"], plainKeys := false, apart := false, narrowed := true }
def AuditMapsUptoSaid : Prop := auditMapsUptoRow.holds Tryz.pinned (OpenSpec.upto auditMapsSpec)

end Rows
end Go.Proofs.YtggljmdeadplkaaGreat
