/- An evaluator over abstract values, proved sound over the model's machine; no condition. Part: Walk2. -/
import Derived.Test.YthgcpbkifhnlpaaGreatAmWalk
set_option linter.unusedSimpArgs false
set_option linter.unusedVariables false
set_option linter.unusedSectionVars false
set_option linter.deprecated false
namespace Go.Am
open Go.RowKit

theorem T.get_ofListF {α : Type} : ∀ (l : List α) (k : Nat) (t : T α) (j : Nat), (T.ofListF l k t).get j = if k ≤ j ∧ j < k + l.length then l[j - k]? else t.get j := by
  intro l
  induction l with
  | nil =>
    intro k t j
    simp only [T.ofListF, List.length_nil, Nat.add_zero]
    rw [if_neg (by omega)]
  | cons x l ih =>
    intro k t j
    simp only [T.ofListF, ih, T.get_set, List.length_cons]
    by_cases h1 : k + 1 ≤ j ∧ j < k + 1 + l.length
    · rw [if_pos h1, if_pos (by omega)]
      have : j - k = (j - (k + 1)) + 1 := by omega
      rw [this, List.getElem?_cons_succ]
    · rw [if_neg h1]
      by_cases h2 : j = k
      · subst h2
        simp
      · rw [if_neg h2, if_neg (by omega)]
theorem T.get_ofList {α : Type} (l : List α) (j : Nat) : (T.ofList l).get j = l[j]? := by
  unfold T.ofList
  rw [T.get_ofListF]
  by_cases h : j < l.length
  · rw [if_pos (by omega)]; simp
  · rw [if_neg (by omega), List.getElem?_eq_none (by omega)]; rfl

theorem enter_wf (fn : Func) (f : FuncId) (body : Code) (args : List AV) (kind : CallKind) : (AFrame.enter fn f body args kind).WF := by
  intro t ht
  simp only [AFrame.enter] at ht ⊢
  rw [T.get_ofList, List.getElem?_eq_none]
  exact Nat.le_trans (Nat.le_max_right _ _) ht
theorem enter_conc {P : Program} {fn : Func} {f : FuncId} {body : Code} (hf : P.funcs[f]? = some fn) (hb : fn.body = some body) (E : Env) (args : List AV) (kind : CallKind) :
    Frame.enter P f (concL E args).toArray kind = concF E (AFrame.enter fn f body args kind) := by
  unfold Frame.enter AFrame.enter concF
  simp only [hf, hb, Option.bind_some, Option.getD_some, Option.map_some, List.map_cons, List.map_nil, concI, concM, Option.map_none]
  congr 1
  apply Array.ext_getElem?
  intro j
  rw [tmps_get?, T.get_ofList, Array.getElem?_append, List.size_toArray, concL_length, List.getElem?_toArray, concL_get, Array.getElem?_replicate]
  by_cases h1 : j < args.length
  · have h2 : j < Nat.max fn.ntmps args.length := Nat.lt_of_lt_of_le h1 (Nat.le_max_right _ _)
    rw [if_pos h1, if_pos h2, List.getElem?_eq_getElem h1]
    simp
  · rw [if_neg h1, List.getElem?_eq_none (by omega : args.length ≤ j)]
    have : Nat.max fn.ntmps args.length = max fn.ntmps args.length := rfl
    rw [this]
    by_cases h2 : j < fn.ntmps
    · rw [if_pos (by omega), if_pos (by omega)]
      rfl
    · rw [if_neg (by omega), if_neg (by omega)]

theorem putParams_conc (E : Env) (nt : Nat) : ∀ (ps : List Tmp) (as : List AV) (ts : T AV), (∀ t, nt ≤ t → ts.get t = none) →
    ((ps.zip (concL E as)).foldl (fun tmps (t, a) => tmps.setIfInBounds t a) (concTmps E ts nt)) = concTmps E (putParams ts nt ps as) nt ∧ ∀ t, nt ≤ t → (putParams ts nt ps as).get t = none := by
  intro ps
  induction ps with
  | nil => intro as ts h; cases as <;> exact ⟨rfl, h⟩
  | cons p ps ih =>
    intro as ts h
    cases as with
    | nil => exact ⟨rfl, h⟩
    | cons a as =>
      simp only [concL_cons, List.zip_cons_cons, List.foldl_cons, tmps_put, putParams]
      exact ih as (putT ts nt p a) (putT_wf h p a)

theorem wanted_conc {ops : Array Oper} {o : Oper} {ts : T AV} {nt : Nat} (hwf : ∀ t, nt ≤ t → ts.get t = none) {b : Bool} (h : wanted ops o ts = .ok b) (E : Env) :
    Region.wanted o (yielded ops (concTmps E ts nt)) = b := by
  unfold wanted at h
  unfold Region.wanted
  cases hg : o.guard with
  | none => rw [hg] at h; cases h; rfl
  | some gw =>
    obtain ⟨j, u⟩ := gw
    rw [hg] at h
    simp only at h ⊢
    unfold yielded
    cases hd : (ops[j]?).bind (·.dst) with
    | none =>
      rw [hd] at h
      simp only [Option.bind_none] at h
      cases h
      rfl
    | some d =>
      rw [hd] at h
      simp only [Option.bind_some] at h ⊢
      rw [tmps_get?]
      by_cases hlt : d < nt
      · rw [if_pos hlt]
        cases hv : ts.get d with
        | none => rw [hv] at h; cases h; rfl
        | some v =>
          rw [hv] at h
          cases v <;> simp only at h <;> first | (cases h; done) | (cases h; simp [conc])
      · rw [if_neg hlt]
        rw [hwf d (by exact Nat.le_of_not_lt hlt)] at h
        cases h
        rfl
end Go.Am
