/- An evaluator over abstract values, proved sound over the model's machine; no condition. Part: Walk6. -/
import Derived.Test.YthgcpbkifhnlpaaGreatAmWalk5
set_option linter.unusedSimpArgs false
set_option linter.unusedVariables false
set_option linter.unusedSectionVars false
set_option linter.deprecated false
namespace Go.Am
open Go.RowKit

section
variable {P : Program} {tab : Tab} (ok : TabOK P tab) {sub : FuncId → List AV → AH → R (List (AV × AH))} (hsub : SubOK P tab sub) (hext : ExtOK P tab)
variable {D : Nat → Prop} {E : Env} {K : Nat → Prop} {base : List Frame} {frC : Frame} {csC : List Frame} {w : World}
variable {fr : AFrame} {cs : List AFrame} {h : AH}

theorem concF_ext {E E' : Env} (e : concF E' fr = concF E fr) : concTmps E' fr.tmps fr.nt = concTmps E fr.tmps fr.nt ∧ fr.todo.map (concI E') = fr.todo.map (concI E) ∧
    fr.defers.map (concD E') = fr.defers.map (concD E) ∧ concM E' fr.mode = concM E fr.mode ∧ fr.round.map E'.blk = fr.round.map E.blk := by
  simpa [concF] using e

def leaveC (P : Program) (fr : Frame) (callers : List Frame) (w : World) (jump : Option Code) : GStep :=
  match fr.roundOf with
  | none => if jump matches none | some .ret then .go { frame := { fr with mode := .returning }, callers, status := .running, dying := none } w else .ended (.stuck "exit, goto: no such block or label" (fr.pos P)) w
  | some l =>
    let (r, es) := (Instr.endRound l jump).runT P w #[]
    GStep.after (seen P fr.fn es) <| match r with
    | .ok v w => Go.doReturn P true fr callers none v w
    | .halt _ w => .ended (.stuck "range over a function: no such loop" (fr.pos P)) w

theorem doReturn_next {c : AFrame} {rest : List AFrame} {v : AV} {out : AOut} (hd : doReturn fr (c :: rest) v h = .ok out) : ∃ m', out = .next m' := by
  unfold doReturn at hd
  simp only at hd
  split at hd
  · obtain ⟨fr1, hf, hd1⟩ := R.bind_ok.1 hd
    cases hd1
    exact ⟨_, rfl⟩
  · split at hd <;> (cases hd; exact ⟨_, rfl⟩)
  · cases hd

theorem leave_sound {jump : Option Code} {out : AOut} (hl : leave fr cs h jump = .ok out) (hR : Rel D E K { fr, cs, h } base frC csC w)
    (hx : stepG P true { frame := frC, callers := csC, status := .running, dying := none } w = leaveC P frC csC w jump) : Out P h.next (lone frC csC w) D E K (bot fr cs) base w out := by
  unfold leave at hl
  split at hl
  · rename_i hround
    have hret : (jump = none ∨ jump = some .ret) → Out P h.next (lone frC csC w) D E K (bot fr cs) base w (.next { fr := { fr with mode := .returning }, cs, h }) := by
      intro hj
      refine ⟨bot_fn (by rfl) cs, ?_⟩
      refine hR.one (m' := { fr := { fr with mode := .returning }, cs, h }) _ (fun _ => (0, 0)) (Nat.le_refl _) ⟨hR.wf.1, hR.wf.2⟩ ?_
      intro E' he H e1 e2 _
      refine ⟨w, step_lone_go ?_, H, Kept.refl K w⟩
      rw [hx]
      have hr0 : frC.roundOf = none := by rw [← e1]; simp [concF, hround]
      have hgo : (leaveC P frC csC w jump).bare = .go { frame := { frC with mode := .returning }, callers := csC, status := .running, dying := none } w := by
        unfold leaveC
        rw [hr0]
        rcases hj with rfl | rfl <;> rfl
      rw [hgo, ← e1, ← e2]
      simp [concF, hround, concM]
    split at hl
    · cases hl; exact hret (.inl rfl)
    · cases hl; exact hret (.inr rfl)
    · cases hl
  · rename_i l hround
    split at hl
    · rename_i _ st pd fn ts nt ps a b d c rest hg
      obtain ⟨m', rfl⟩ := doReturn_next hl
      · obtain ⟨h1, h2, h3, h4⟩ := doReturn_one (P := P) hl hR.wf.2 w
        refine ⟨h2, ?_⟩
        refine hR.one _ (fun _ => (0, 0)) (by rw [h1]; exact Nat.le_refl _) h3 ?_
        intro E' he H e1 e2 _
        obtain ⟨o, ho, hoo, hw⟩ := H.obj l _ hg
        subst hoo
        let o' : Obj := .loop { state := if jump.isNone then .ready else .done, pending := jump, fn, tmps := concTmps E' ts nt, params := ps, assign := a, body := b, defers := E'.blk d }
        have hrun : (Instr.endRound (E'.blk l) jump).run P w = .ok (.bool jump.isNone) (w.put (E'.blk l) o') := by
          unfold Instr.endRound Instr.getLoop
          simp only [Sem.run_bind, run_getO ho (by simp), Result.andThen_ok, Sem.run_pure, run_setO ho (by simp)]
          rfl
        refine ⟨w.put (E'.blk l) o', step_lone_go ?_, ?_, H.kept_put hg (by simp [AO.ro]) _⟩
        · rw [hx]
          have hr0 : frC.roundOf = some (E'.blk l) := by rw [← e1]; simp [concF, hround]
          unfold leaveC
          rw [hr0]
          simp only [Sem.runT_eq, hrun, GStep.bare_after]
          have := (doReturn_one (P := P) hl hR.wf.2 (w.put (E'.blk l) o')).2.2.2 E' base
          simp only at e1 e2
          rw [e1, e2] at this
          exact this
        · rw [h1]
          refine H.put hg (by simp [AO.ro]) ⟨?_, hw⟩
          by_cases hj : jump.isNone <;> simp [o', hj]
    · cases hl

theorem stepG_unwind (hm : frC.mode ≠ .run) : stepG P true { frame := frC, callers := csC, status := .running, dying := none } w = Go.unwind P true frC csC none w := by
  unfold stepG
  cases hmode : frC.mode with
  | run => exact absurd hmode hm
  | returning => simp [hmode]
  | panicking c => simp [hmode]

include ok hsub hext in
theorem unwind_sound {out : AOut} (hu : unwind tab sub fr cs h = .ok out) (hm : ∀ (_ : fr.mode = .run), False) (hR : Rel D E K { fr, cs, h } base frC csC w) : Out P h.next (lone frC csC w) D E K (bot fr cs) base w out := by
  have hmC : frC.mode ≠ .run := by
    rw [← (hR.all E (Agree.refl _ _)).2.1]
    intro e
    simp only [concF, concM] at e
    split at e
    · rename_i hmm; exact hm hmm
    · cases e
    · cases e
  have hx := stepG_unwind (P := P) (csC := csC) (w := w) hmC
  unfold unwind at hu
  split at hu
  · -- a mark
    rename_i b args ds hds
    split at hu
    · rename_i calls hb
      cases hu
      refine ⟨bot_fn (by rfl) cs, ?_⟩
      refine hR.one (m' := { fr := { fr with defers := calls ++ ds }, cs, h := h.set b (.dfr none) }) _ (fun _ => (0, 0)) (Nat.le_refl _) ⟨hR.wf.1, hR.wf.2⟩ ?_
      intro E' he H e1 e2 _
      obtain ⟨o, ho, hoo⟩ := H.obj b _ hb
      simp only [OOK] at hoo
      subst hoo
      refine ⟨w.put (E'.blk b) (.deferred none), step_lone_go ?_, H.put hb (by simp [AO.ro]) (by simp [OOK]), H.kept_put hb (by simp [AO.ro]) _⟩
      rw [hx]
      have hrun : (Instr.takeDeferred (E'.blk b)).run P w = .ok (calls.map (concD E')) (w.put (E'.blk b) (.deferred none)) := by
        unfold Instr.takeDeferred
        simp only [Sem.run_bind, run_getO ho (by simp), Result.andThen_ok, Sem.run_pure, run_setO ho (by simp), Option.map_some]
      have hdef : frC.defers = { target := .collected (E'.blk b), args := (concL E' args).toArray } :: ds.map (concD E') := by
        rw [← e1]; simp [concF, hds, concD, concT]
      unfold Go.unwind
      simp only [hdef, Sem.runT_eq, hrun, GStep.bare_after, GStep.bare_go]
      rw [← e1, ← e2]
      simp [concF]
    · cases hu
  · -- a deferred call
    rename_i d ds hnc hds
    have hR' : Rel D E K { fr := { fr with defers := ds }, cs, h } base (concF E { fr with defers := ds }) csC w := by
      refine ⟨fun E' he => ?_, hR.dom, hR.wf.1, hR.wf.2⟩
      obtain ⟨g1, g2, g3⟩ := hR.all E' he
      refine ⟨g1, ?_, g3⟩
      obtain ⟨h1, h2, h3, h4, h5⟩ := concF_ext (g2.trans (hR.all E (Agree.refl _ _)).2.1.symm)
      rw [hds] at h3
      simp only [List.map_cons, List.cons.injEq] at h3
      simp [concF, h1, h2, h3.2, h4, h5]
    have hdrob : ∀ E', Agree D E E' → concD E' d = concD E d := by
      intro E' he
      obtain ⟨g1, g2, g3⟩ := hR.all E' he
      obtain ⟨h1, h2, h3, h4, h5⟩ := concF_ext (g2.trans (hR.all E (Agree.refl _ _)).2.1.symm)
      rw [hds] at h3
      simp only [List.map_cons, List.cons.injEq] at h3
      exact h3.1
    have hfr : frC = concF E fr := (hR.all E (Agree.refl _ _)).2.1.symm
    have hdef : frC.defers = concD E d :: ds.map (concD E) := by
      rw [hfr]; simp [concF, hds]
    have hfr' : ({ frC with defers := ds.map (concD E) } : Frame) = concF E { fr with defers := ds } := by
      rw [hfr]; rfl
    have hux : Go.unwind P true frC csC none w = callDeferred P (concF E { fr with defers := ds }) csC none (concD E d) w := by
      have hnc' : ∀ b, (concD E d).target ≠ .collected b := by
        intro b e
        obtain ⟨t, a⟩ := d
        cases t with
        | fn f c => simp [concD, concT] at e
        | yld l => simp [concD, concT] at e
        | collected r => exact hnc _ _ rfl
      unfold Go.unwind
      rw [hdef]
      split
      · rename_i b ds' _ heq
        simp only [List.cons.injEq] at heq
        exact absurd (by rw [heq.1]) (hnc' _)
      · rename_i heq
        simp only [List.cons.injEq] at heq
        obtain ⟨rfl, rfl⟩ := heq
        rw [hfr']
      · rename_i heq; cases heq
    obtain ⟨tg, tc, htgt⟩ : ∃ g c, (concD E d).target = .fn g c := by
      obtain ⟨t, a⟩ := d
      cases t with
      | fn f c => exact ⟨_, _, rfl⟩
      | yld l => exact ⟨_, _, rfl⟩
      | collected r => exact absurd rfl (fun e => hnc r a e)
    rw [← bot_fn (fr := fr) (fr' := { fr with defers := ds }) rfl cs]
    refine (callTarget_sound ok hsub hext hu hR' (lone frC csC w) (dC := concD E d) ⟨fun f x w' hr => ?_, fun l f t x b w' hr => ?_, fun v w' hr hk => ?_⟩ hdrob)
    · refine step_lone_go ?_
      rw [hx, hux]
      unfold callDeferred
      rw [htgt] at hr
      simp only [htgt, Bool.false_and, Bool.false_eq_true, if_false, Sem.runT_eq, hr, GStep.bare_after, GStep.bare_go]
    · refine step_lone_go ?_
      rw [hx, hux]
      unfold callDeferred
      rw [htgt] at hr
      simp only [htgt, Bool.false_and, Bool.false_eq_true, if_false, Sem.runT_eq, hr, GStep.bare_after, GStep.bare_go]
    · cases hk
  · rename_i hds
    have hdef : frC.defers = [] := by
      rw [← (hR.all E (Agree.refl _ _)).2.1]; simp [concF, hds]
    split at hu
    · cases hu
    · -- panicking
      rename_i chain hmode
      split at hu
      · rename_i c rest
        cases hu
        refine ⟨bot_fn (by unfold AFrame.raise; split <;> rfl) rest, ?_⟩
        refine hR.one (m' := { fr := c.raise chain, cs := rest, h }) _ (fun _ => (0, 0)) (Nat.le_refl _)
          ⟨by have := hR.wf.2 c List.mem_cons_self; unfold AFrame.raise; split <;> exact this, fun f hf => hR.wf.2 f (List.mem_cons_of_mem _ hf)⟩ ?_
        intro E' he H e1 e2 _
        refine ⟨w, step_lone_go ?_, H, Kept.refl K w⟩
        have hmd : frC.mode = .panicking (chain.map (concP E')) := by rw [← e1]; simp [concF, hmode, concM]
        have hcat : frC.catches P = false := by
          unfold Frame.catches
          rw [← e1]
          cases P.funcs[(concF E' fr).fn]? with
          | some _ => rfl
          | none =>
            cases htd : fr.todo with
            | nil => simp [concF, htd]
            | cons x l => cases x <;> simp [concF, htd, concI]
        rw [hx]
        unfold Go.unwind
        simp only [hdef, hmd, hcat, Bool.false_eq_true, if_false]
        rw [← e2]
        simp only [List.map_cons, List.cons_append, GStep.bare_go]
        congr 2
        unfold Frame.raise AFrame.raise
        cases hcm : c.mode <;> simp [concF, hcm, concM]
      · cases hu
    · -- returning
      rename_i hmode
      split at hu
      · cases hu
      · rename_i fn hfn
        obtain ⟨vs, hvs, hu1⟩ := R.bind_ok.1 hu
        have hP := ok.fns _ _ hfn
        have hmd : frC.mode = .returning := by rw [← (hR.all E (Agree.refl _ _)).2.1]; simp [concF, hmode, concM]
        have hres : ∀ E', Agree D E E' → (Go.results fn frC.tmps).run P w = .ok (conc E' (result vs)) w := by
          intro E' he
          obtain ⟨g1, g2, g3⟩ := hR.all E' he
          rw [← g2]
          exact results_conc ok hR.wf.1 g1 hvs
        have hfn' : frC.fn = fr.fn := by rw [← (hR.all E (Agree.refl _ _)).2.1]; rfl
        have hP' : P.funcs[frC.fn]? = some fn := by rw [hfn']; exact hP
        have hxx : ∀ E', Agree D E E' → (stepG P true { frame := frC, callers := csC, status := .running, dying := none } w).bare = (Go.doReturn P true frC csC none (conc E' (result vs)) w).bare := by
          intro E' he
          rw [hx]
          unfold Go.unwind
          simp only [hdef, hmd, hP', Sem.runT_eq, hres E' he, GStep.bare_after]
        cases cs with
        | cons c rest =>
          obtain ⟨m', rfl⟩ := doReturn_next hu1
          obtain ⟨h1, h2, h3, h4⟩ := doReturn_one (P := P) hu1 hR.wf.2 w
          refine ⟨h2, ?_⟩
          refine hR.one _ (fun _ => (0, 0)) (by rw [h1]; exact Nat.le_refl _) h3 ?_
          intro E' he H e1 e2 _
          refine ⟨w, step_lone_go ?_, by rw [h1]; exact H, Kept.refl K w⟩
          rw [hxx E' he]
          have := h4 E' base
          simp only at e1 e2
          rw [e1, e2] at this
          exact this
        | nil =>
          unfold doReturn at hu1
          simp only at hu1
          split at hu1
          · rename_i hk
            cases hu1
            have hk' : frC.kind = .normal := by rw [← (hR.all E (Agree.refl _ _)).2.1]; exact hk
            have hcs : csC = base := by rw [← (hR.all E (Agree.refl _ _)).2.2]; rfl
            subst hcs
            refine ⟨frC, w, conc E (result vs), E, D, Steps.refl P _, hfn', ⟨hmd, hdef, hk', fn, hP', hres E (Agree.refl _ _)⟩, ?_, Agree.refl _ _, fun _ hi => hi, hR.dom, Kept.refl K w, Nat.le_refl _, fun _ hi => .inl hi⟩
            intro E'' he
            refine ⟨(hR.all E'' he).1, ?_⟩
            have h1 := hres E'' he
            rw [hres E (Agree.refl _ _)] at h1
            simpa using h1.symm
          · cases hu1
end
end Go.Am
