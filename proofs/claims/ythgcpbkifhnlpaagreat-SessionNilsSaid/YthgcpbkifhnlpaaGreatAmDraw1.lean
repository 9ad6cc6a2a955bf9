/- An evaluator over abstract values, proved sound over the model's machine; no condition. Part: Draw1. -/
import Derived.Test.YthgcpbkifhnlpaaGreatAmRun
import Derived.Orders
set_option linter.unusedSimpArgs false
set_option linter.unusedVariables false
set_option linter.unusedSectionVars false
set_option linter.deprecated false
namespace Go.Am
open Go.RowKit

section
variable {tab : Tab} {ts ts' : T AV} {h : AH}

theorem evs_congr : ∀ (l : List Operand), (∀ x ∈ l, ev ts x = ev ts' x) → evs ts l = evs ts' l := by
  intro l
  induction l with
  | nil => intro _; rfl
  | cons x l ih =>
    intro hx
    simp only [evs, hx x List.mem_cons_self, ih (fun y hy => hx y (List.mem_cons_of_mem _ hy))]
theorem evParts_congr : ∀ (l : List (Nat × Operand)), (∀ x ∈ l.map (·.2), ev ts x = ev ts' x) → evParts ts l = evParts ts' l := by
  intro l
  induction l with
  | nil => intro _; rfl
  | cons x l ih =>
    intro hx
    simp only [evParts, hx x.2 (by simp), ih (fun y hy => hx y (by simp at hy ⊢; exact .inr hy))]

theorem pureOp_congr (o : Oper) (hx : ∀ x ∈ o.op.operands, ev ts x = ev ts' x) : pureOp tab ts h o = pureOp tab ts' h o := by
  obtain ⟨dst, op, type, pos, after, guard⟩ := o
  cases op <;> simp only [Op.operands] at hx <;> simp only [pureOp]
  case build t ps => rw [evParts_congr ps.toList fun x hm => hx x (by simpa using hm)]
  case buildSlice t n ps => rw [evParts_congr ps.toList fun x hm => hx x (by simpa using hm)]
  case makeFunc fn first captured =>
    rw [evs_congr first.toList fun x hm => hx x (by simp at hm; simp [hm]), evs_congr captured.toList fun x hm => hx x (by simp at hm; simp [hm])]
  case call c =>
    cases hc : c.callee with
    | builtin b =>
      simp only
      rw [evs_congr c.args.toList fun x hm => hx x (by simp [Call.operands, hc]; simpa using hm)]
    | value f => rfl
    | invoke r m => rfl
  case slice t x lo hi mx =>
    have h0 : ev ts x = ev ts' x := hx x (by simp)
    have h1 : ∀ y, lo = some y → ev ts y = ev ts' y := fun y e => hx y (by simp [e])
    have h2 : ∀ y, hi = some y → ev ts y = ev ts' y := fun y e => hx y (by simp [e])
    have h3 : ∀ y, mx = some y → ev ts y = ev ts' y := fun y e => hx y (by simp [e])
    rw [h0]
    cases lo <;> cases hi <;> cases mx <;> simp_all [sliceOp, optNat]
  case makeMap t r => cases r <;> rfl
  all_goals (first | rfl | (simp_all; done))

theorem effOp_congr {sub : FuncId → List AV → AH → R (List (AV × AH))} (o : Oper) (hx : ∀ x ∈ o.op.operands, ev ts x = ev ts' x) : effOp tab sub ts h o = effOp tab sub ts' h o := by
  have hp := pureOp_congr (tab := tab) (h := h) o hx
  unfold effOp
  cases hop : o.op
  case call c =>
    rw [hop] at hx
    simp only
    cases hc : c.callee with
    | builtin b => cases b <;> simp only [hp]
    | value f =>
      have h1 : ev ts f = ev ts' f := hx f (by simp [Op.operands, Call.operands, hc])
      have h2 : evs ts c.args.toList = evs ts' c.args.toList := evs_congr c.args.toList fun x hm => hx x (by simp [Op.operands, Call.operands, hc]; right; simpa using hm)
      simp only [h1, h2]
    | invoke r m => simp only [hp]
  all_goals simp only [hp]

theorem looks_spec {ops : Array Oper} {o : Oper} (h : ∀ t ∈ looks ops o, ts.get t = ts'.get t) : (∀ x ∈ o.op.operands, ev ts x = ev ts' x) ∧ wanted ops o ts = wanted ops o ts' := by
  constructor
  · intro x hx
    cases x with
    | tmp t =>
      have := h t (List.mem_append_left _ (List.mem_filterMap.2 ⟨.tmp t, by simpa using hx, rfl⟩))
      simp only [ev, this]
    | const v => rfl
    | func f => rfl
    | global g => rfl
  · unfold wanted
    cases hg : o.guard with
    | none => rfl
    | some gw =>
      obtain ⟨g, want⟩ := gw
      simp only
      cases hd : (ops[g]?).bind (·.dst) with
      | none => rfl
      | some d =>
        have := h d (List.mem_append_right _ (by simp [hg, hd]))
        simp only [Option.bind_some, this]
end
end Go.Am
