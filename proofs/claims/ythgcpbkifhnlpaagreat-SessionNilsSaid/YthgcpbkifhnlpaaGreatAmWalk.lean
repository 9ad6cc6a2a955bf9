/- An evaluator over abstract values, proved sound over the model's machine; no condition. Part: Walk. -/
import Derived.Test.YthgcpbkifhnlpaaGreatAmMach
set_option linter.unusedSimpArgs false
set_option linter.unusedVariables false
set_option linter.unusedSectionVars false
set_option linter.deprecated false
namespace Go.Am
open Go.RowKit

theorem tmps_getD (E : Env) (ts : T AV) (nt t : Nat) (hwf : ∀ t, nt ≤ t → ts.get t = none) : (concTmps E ts nt).getD t undef = conc E ((ts.get t).getD (.tup [])) := by
  unfold concTmps
  by_cases ht : t < nt
  · simp [Array.getD, ht, tmpAt]
  · simp [Array.getD, ht, hwf t (by omega)]
    rfl
theorem tmps_get? (E : Env) (ts : T AV) (nt t : Nat) : (concTmps E ts nt)[t]? = if t < nt then some (conc E ((ts.get t).getD (.tup []))) else none := by
  unfold concTmps
  by_cases ht : t < nt <;> simp [ht, tmpAt]
theorem tmps_size (E : Env) (ts : T AV) (nt : Nat) : (concTmps E ts nt).size = nt := by simp [concTmps]

def putT (ts : T AV) (nt : Nat) (d : Tmp) (v : AV) : T AV := bif Nat.blt d nt then ts.set d (some v) else ts
theorem putT_get (ts : T AV) (nt : Nat) (d : Tmp) (v : AV) (t : Nat) : (putT ts nt d v).get t = if d < nt ∧ t = d then some v else ts.get t := by
  unfold putT
  by_cases h : d < nt
  · have : Nat.blt d nt = true := by simpa using h
    simp [h, this, T.get_set]
  · have : Nat.blt d nt = false := by
      cases hb : Nat.blt d nt
      · rfl
      · exact absurd (by simpa using hb) h
    simp [this, h]
theorem tmps_put (E : Env) (ts : T AV) (nt : Nat) (d : Tmp) (v : AV) : (concTmps E ts nt).setIfInBounds d (conc E v) = concTmps E (putT ts nt d v) nt := by
  apply Array.ext_getElem?
  intro j
  rw [Array.getElem?_setIfInBounds, tmps_get?, tmps_get?, tmps_size, putT_get]
  by_cases hj : d = j
  · subst hj
    by_cases hd : d < nt <;> simp [hd]
  · have : ¬ j = d := fun e => hj e.symm
    simp [hj, this]
theorem putT_wf {ts : T AV} {nt : Nat} (h : ∀ t, nt ≤ t → ts.get t = none) (d : Tmp) (v : AV) : ∀ t, nt ≤ t → (putT ts nt d v).get t = none := by
  intro t ht
  rw [putT_get]
  split
  · rename_i hc
    obtain ⟨h1, h2⟩ := hc
    subst h2
    exact absurd h1 (Nat.not_lt.2 ht)
  · exact h t ht

theorem ev_conc {fr : AFrame} (hwf : fr.WF) (E : Env) {x : Operand} {u : AV} (h : ev fr.tmps x = .ok u) : (concF E fr).eval x = conc E u := by
  cases x <;> simp only [ev] at h <;> (try cases h)
  · exact tmps_getD E fr.tmps fr.nt _ hwf
  · exact (conc_ofConst E _).symm
  · simp [Frame.eval, conc]

theorem putF (fr : AFrame) (d : Option Tmp) (v : AV) : fr.put d v = match d with | some d => putT fr.tmps fr.nt d v | none => fr.tmps := by
  cases d <;> rfl

theorem finish_conc {fr fr' : AFrame} {v : AV} (h : fr.finish v = .ok fr') (E : Env) : (concF E fr).finish (conc E v) = concF E fr' ∧ (fr.WF → fr'.WF) ∧ fr'.fn = fr.fn := by
  obtain ⟨fn, nt, tmps, todo, defers, mode, kind, round⟩ := fr
  unfold AFrame.finish at h
  split at h
  · rename_i ops i rest k htodo
    cases h
    simp only at htodo
    subst htodo
    refine ⟨?_, fun hwf => ?_, rfl⟩
    · rw [putF]
      cases hd : (ops[i]?).bind (·.dst) with
      | none => simp [Frame.finish, concF, concI, hd]
      | some d => simp [Frame.finish, concF, concI, hd, tmps_put]
    · unfold AFrame.WF
      simp only [putF]
      cases hd : (ops[i]?).bind (·.dst) with
      | none => exact hwf
      | some d => exact putT_wf hwf d v
  · rename_i l k htodo
    cases h
    simp only at htodo
    subst htodo
    exact ⟨by simp [Frame.finish, concF, concI], fun hwf => hwf, rfl⟩
  · rename_i k htodo
    cases h
    simp only at htodo
    subst htodo
    exact ⟨by simp [Frame.finish, concF, concI], fun hwf => hwf, rfl⟩
  · cases h

/-- The function of the lowest frame. -/
def bot (fr : AFrame) : List AFrame → FuncId
  | [] => fr.fn
  | c :: cs => bot c cs
theorem bot_fn {fr fr' : AFrame} (h : fr'.fn = fr.fn) (cs : List AFrame) : bot fr' cs = bot fr cs := by
  cases cs with
  | nil => exact h
  | cons c cs => rfl

theorem exitTo_conc (E : Env) (id : Nat) : ∀ (k : List AItem), Go.exitTo id (k.map (concI E)) = (exitTo id k).map (List.map (concI E)) := by
  intro k
  induction k with
  | nil => rfl
  | cons x k ih =>
    cases x <;> simp only [List.map_cons, concI, Go.exitTo, exitTo, ih]
    rename_i j
    by_cases h : j = id
    · subst h; simp
    · have : Nat.beq j id = false := by
        cases hb : Nat.beq j id
        · rfl
        · exact absurd (Nat.eq_of_beq_eq_true hb) h
      simp [h, this, ih]

section
variable {P : Program} {D : Nat → Prop} {E : Env} {K : Nat → Prop} {m : AM} {base : List Frame} {fr : Frame} {cs : List Frame} {w : World}

/-- A step that only moves the frame on. -/
theorem Rel.ctl (hR : Rel D E K m base fr cs w) (fr' : AFrame) (hwf : fr'.WF) (h : ∀ E' cs', Go.step P (lone (concF E' m.fr) cs' w) = .next (lone (concF E' fr') cs' w)) :
    Gets P m.h.next (lone fr cs w) D E K { fr := fr', cs := m.cs, h := m.h } base w :=
  hR.one (m' := { fr := fr', cs := m.cs, h := m.h }) _ (fun _ => (0, 0)) (Nat.le_refl _) ⟨hwf, hR.wf.2⟩
    (fun E' _ H e1 e2 _ => ⟨w, by rw [← e1, ← e2]; exact h E' _, H, Kept.refl K w⟩)

theorem todo_call (E : Env) (l : List AItem) : (match l.map (concI E) with | .call _ true _ _ :: _ => CallKind.wrapped | _ => .normal) = .normal := by
  cases l with
  | nil => rfl
  | cons x l => cases x <;> rfl

theorem apply_value {fr : Frame} {cs : List Frame} {s : Sem Next} {r : Next} {x : Value} {w w' : World} (hs : s.run P w = .ok r w') (hr : Yields r x) :
    (stepG.apply P true fr cs none s w).bare = .go { frame := fr.finish x, callers := cs, status := .running, dying := none } w' := by
  rcases hr with rfl | ⟨rfl, rfl⟩ <;> simp [stepG.apply, hs]

theorem step_op {fr : Frame} {cs : List Frame} {ops : Array Oper} {i : Nat} {rest : List Nat} {k : List Item} {o : Oper} (hm : fr.mode = .run) (ht : fr.todo = .inRegion ops (i :: rest) :: k)
    (ho : ops[i]? = some o) (hw : Region.wanted o (yielded ops fr.tmps) = true) (hd : fr.roundOf = none ∨ ∀ c, o.op ≠ .defer c) (w : World) :
    stepG P true { frame := fr, callers := cs, status := .running, dying := none } w = stepG.apply P true fr cs none (execOp fr.eval o) w := by
  have : stepG P true { frame := fr, callers := cs, status := .running, dying := none } w = stepG.oper P true fr cs none w := by
    simp [stepG, hm, stepG.exec, ht, ho, hw]
  rw [this]
  unfold stepG.oper
  simp only [Frame.oper?, ht, ho]
  rcases hd with hd | hd
  · rw [hd]
  · cases fr.roundOf with
    | none => rfl
    | some l =>
      split
      · exact absurd (by assumption) (hd _)
      · rfl
end
end Go.Am
