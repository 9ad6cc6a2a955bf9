/- An evaluator over abstract values, proved sound over the model's machine; no condition. Part: Walk8. -/
import Derived.Test.YthgcpbkifhnlpaaGreatAmWalk7
set_option linter.unusedSimpArgs false
set_option linter.unusedVariables false
set_option linter.unusedSectionVars false
set_option linter.deprecated false
namespace Go.Am
open Go.RowKit

section
variable {P : Program} {tab : Tab} (ok : TabOK P tab) {sub : FuncId → List AV → AH → R (List (AV × AH))} (hsub : SubOK P tab sub) (hext : ExtOK P tab) (hdraw : DrawOK P tab sub)
variable {D : Nat → Prop} {E : Env} {K : Nat → Prop} {base : List Frame} {frC : Frame} {csC : List Frame} {w : World}

theorem leave_nil (hm : frC.mode = .run) (ht : frC.todo = []) : stepG P true { frame := frC, callers := csC, status := .running, dying := none } w = leaveC P frC csC w none := by
  obtain ⟨fn, tmps, todo, defers, mode, kind, roundOf⟩ := frC
  simp only at hm ht
  subst hm ht
  cases roundOf with
  | none => simp [stepG, stepG.exec, leaveC]
  | some l =>
    simp [stepG, stepG.exec, leaveC]
    rfl
theorem leave_ret {k : List Item} (hm : frC.mode = .run) (ht : frC.todo = .code .ret :: k) : stepG P true { frame := frC, callers := csC, status := .running, dying := none } w = leaveC P frC csC w (some .ret) := by
  obtain ⟨fn, tmps, todo, defers, mode, kind, roundOf⟩ := frC
  simp only at hm ht
  subst hm ht
  cases roundOf with
  | none => simp [stepG, stepG.exec, leaveC]
  | some l =>
    simp [stepG, stepG.exec, leaveC]
    rfl
theorem leave_exit {id : Nat} {k : List Item} (hm : frC.mode = .run) (ht : frC.todo = .code (.exit id) :: k) (hk : Go.exitTo id k = none) : stepG P true { frame := frC, callers := csC, status := .running, dying := none } w = leaveC P frC csC w (some (.exit id)) := by
  obtain ⟨fn, tmps, todo, defers, mode, kind, roundOf⟩ := frC
  simp only at hm ht
  subst hm ht
  cases roundOf with
  | none => simp [stepG, stepG.exec, leaveC, hk]
  | some l =>
    simp [stepG, stepG.exec, leaveC, hk]
    rfl

/-- A step of a frame that runs. -/
theorem ctl_step {fr : AFrame} {cs : List AFrame} {h : AH} (hR : Rel D E K { fr, cs, h } base frC csC w) (k : List AItem)
    (hx : ∀ E' cs', Go.step P (lone (concF E' fr) cs' w) = .next (lone (concF E' { fr with todo := k }) cs' w)) :
    Out P h.next (lone frC csC w) D E K (bot fr cs) base w (.next { fr := { fr with todo := k }, cs, h }) :=
  ⟨bot_fn (by rfl) cs, hR.ctl { fr with todo := k } hR.wf.1 hx⟩

include ok hsub hext hdraw in
theorem step_sound {m : AM} {out : AOut} (hs : step tab sub m = .ok out) (hR : Rel D E K m base frC csC w) : Out P m.h.next (lone frC csC w) D E K (bot m.fr m.cs) base w out := by
  obtain ⟨fr, cs, h⟩ := m
  unfold step at hs
  simp only at hs
  split at hs
  · rename_i hm
    have hmC : frC.mode = .run := by rw [← (hR.all E (Agree.refl _ _)).2.1]; simp [concF, hm, concM]
    split at hs
    · -- the end
      rename_i ht
      have htC : frC.todo = [] := by rw [← (hR.all E (Agree.refl _ _)).2.1]; simp [concF, ht]
      exact leave_sound hs hR (leave_nil hmC htC)
    · rename_i k ht
      have htC : frC.todo = .code .ret :: k.map (concI E) := by rw [← (hR.all E (Agree.refl _ _)).2.1]; simp [concF, ht, concI]
      exact leave_sound hs hR (leave_ret hmC htC)
    · rename_i k ht
      cases hs
      exact ctl_step hR k (fun E' cs' => step_lone_go (by simp [stepG, stepG.exec, concF, hm, ht, concM, concI]))
    · rename_i l k ht
      cases hs
      exact ctl_step hR k (fun E' cs' => step_lone_go (by simp [stepG, stepG.exec, concF, hm, ht, concM, concI]))
    · rename_i l k ht
      cases hs
      exact ctl_step hR k (fun E' cs' => step_lone_go (by simp [stepG, stepG.exec, concF, hm, ht, concM, concI]))
    · rename_i l k ht
      cases hs
      exact ctl_step hR k (fun E' cs' => step_lone_go (by simp [stepG, stepG.exec, concF, hm, ht, concM, concI]))
    · rename_i a b k ht
      cases hs
      exact ctl_step hR _ (fun E' cs' => step_lone_go (by simp [stepG, stepG.exec, concF, hm, ht, concM, concI]))
    · -- cond
      rename_i c a b k ht
      obtain ⟨u, hu, hs1⟩ := R.bind_ok.1 hs
      split at hs1
      · cases hs1
        exact ctl_step hR _ (fun E' cs' => step_lone_go (by
          have := ev_conc hR.wf.1 E' hu
          simp only [conc] at this
          simp [stepG, stepG.exec, concF, hm, ht, concM, concI] at this ⊢
          simp [this]))
      · cases hs1
        exact ctl_step hR _ (fun E' cs' => step_lone_go (by
          have := ev_conc hR.wf.1 E' hu
          simp only [conc] at this
          simp [stepG, stepG.exec, concF, hm, ht, concM, concI] at this ⊢
          simp [this]))
      · cases hs1
    · rename_i id b k ht
      cases hs
      exact ctl_step hR _ (fun E' cs' => step_lone_go (by simp [stepG, stepG.exec, concF, hm, ht, concM, concI]))
    · rename_i b k ht
      cases hs
      exact ctl_step hR _ (fun E' cs' => step_lone_go (by simp [stepG, stepG.exec, concF, hm, ht, concM, concI]))
    · rename_i b k ht
      cases hs
      exact ctl_step hR _ (fun E' cs' => step_lone_go (by simp [stepG, stepG.exec, concF, hm, ht, concM, concI]))
    · rename_i b k ht
      cases hs
      exact ctl_step hR _ (fun E' cs' => step_lone_go (by simp [stepG, stepG.exec, concF, hm, ht, concM, concI]))
    · -- exit
      rename_i id k ht
      split at hs
      · rename_i k' hk
        cases hs
        exact ctl_step hR _ (fun E' cs' => step_lone_go (by simp [stepG, stepG.exec, concF, hm, ht, concM, concI, exitTo_conc, hk]))
      · rename_i hk
        have htC : frC.todo = .code (.exit id) :: k.map (concI E) := by rw [← (hR.all E (Agree.refl _ _)).2.1]; simp [concF, ht, concI]
        exact leave_sound hs hR (leave_exit hmC htC (by rw [exitTo_conc, hk]; rfl))
    · -- range over a function
      rename_i f ps a b k ht
      exact range_sound ok hsub hext hm ht hR hs
    · -- its end
      rename_i l k ht
      split at hs
      · rename_i st pd fn ts nt ps a b d hl
        have hbusy : st ≠ .busy := by intro e; subst e; cases hs
        have hs1 : (R.ok (AOut.next { fr := { fr with todo := (pd.map AItem.code).toList ++ k }, cs, h := h.set l (.loop .exhausted pd fn ts nt ps a b d) }) : R AOut) = .ok out := by
          cases st <;> first | exact hs | exact absurd rfl hbusy
        cases hs1
        refine ⟨bot_fn (by rfl) cs, ?_⟩
        refine hR.one (m' := { fr := { fr with todo := (pd.map AItem.code).toList ++ k }, cs, h := h.set l (.loop .exhausted pd fn ts nt ps a b d) }) _ (fun _ => (0, 0)) (Nat.le_refl _) ⟨hR.wf.1, hR.wf.2⟩ ?_
        intro E' he H e1 e2 _
        obtain ⟨o, ho, hoo, hw⟩ := H.obj l _ hl
        subst hoo
        let o' : Obj := .loop { state := .exhausted, pending := pd, fn, tmps := concTmps E' ts nt, params := ps, assign := a, body := b, defers := E'.blk d }
        have hrun : (Instr.endLoop (E'.blk l)).run P w = .ok pd (w.put (E'.blk l) o') := by
          unfold Instr.endLoop Instr.getLoop
          have : (st == LoopState.busy) = false := by cases st <;> first | rfl | exact absurd rfl hbusy
          simp only [Sem.run_bind, run_getO ho (by simp), Result.andThen_ok, Sem.run_pure, this, Bool.false_eq_true, if_false, run_setO ho (by simp)]
          rfl
        refine ⟨w.put (E'.blk l) o', step_lone_go ?_, H.put hl (by simp [AO.ro]) ⟨rfl, hw⟩, H.kept_put hl (by simp [AO.ro]) _⟩
        simp only at e1 e2
        have htC : frC.todo = .endRangeFunc (E'.blk l) :: k.map (concI E') := by rw [← e1]; simp [concF, ht, concI]
        rw [← e2]
        have hgoal : concF E' { fr with todo := (pd.map AItem.code).toList ++ k } = { frC with todo := (pd.map Item.code).toList ++ k.map (concI E') } := by
          rw [← e1]
          cases pd <;> simp [concF, concI]
        simp only [hgoal]
        unfold stepG stepG.exec
        simp only [hmC, htC, Sem.runT_eq, hrun, GStep.bare_after, GStep.bare_go]
      · cases hs
    · -- a round begins
      rename_i k ht
      split at hs
      · rename_i l hround
        split at hs
        · rename_i pd fn ts nt ps a b d hl
          cases hs
          refine ⟨bot_fn (by rfl) cs, ?_⟩
          refine hR.one (m' := { fr := { fr with todo := k }, cs, h := h.set l (.loop .busy pd fn ts nt ps a b d) }) _ (fun _ => (0, 0)) (Nat.le_refl _) ⟨hR.wf.1, hR.wf.2⟩ ?_
          intro E' he H e1 e2 _
          obtain ⟨o, ho, hoo, hw⟩ := H.obj l _ hl
          subst hoo
          let o' : Obj := .loop { state := .busy, pending := pd, fn, tmps := concTmps E' ts nt, params := ps, assign := a, body := b, defers := E'.blk d }
          simp only at e1 e2
          have hr0 : frC.roundOf = some (E'.blk l) := by rw [← e1]; simp [concF, hround]
          have htC : frC.todo = .beginRound :: k.map (concI E') := by rw [← e1]; simp [concF, ht, concI]
          have hrun : (do frC.roundOf.elim (stuck "beginRound: no round") Instr.beginRound; pure .skip : Sem Next).run P w = .ok .skip (w.put (E'.blk l) o') := by
            rw [hr0]
            simp only [Option.elim_some, Instr.beginRound, Instr.getLoop]
            simp only [Sem.run_bind, run_getO ho (by simp), Result.andThen_ok, Sem.run_pure, run_setO ho (by simp)]
            rfl
          refine ⟨w.put (E'.blk l) o', step_lone_go ?_, H.put hl (by simp [AO.ro]) ⟨rfl, hw⟩, H.kept_put hl (by simp [AO.ro]) _⟩
          rw [← e2]
          have hgoal : concF E' { fr with todo := k } = { frC with todo := k.map (concI E') } := by
            rw [← e1]; rfl
          simp only [hgoal]
          have hx : stepG P true { frame := frC, callers := cs.map (concF E') ++ base, status := .running, dying := none } w = stepG.apply P true frC (cs.map (concF E') ++ base) none (do frC.roundOf.elim (stuck "beginRound: no round") Instr.beginRound; pure .skip) w := by
            unfold stepG stepG.exec
            simp only [hmC, htC]
          rw [hx, apply_value hrun (.inr ⟨rfl, rfl⟩)]
          simp [Frame.finish, htC]
        · cases hs
      · cases hs
    · rename_i id ops k ht
      cases hs
      exact ctl_step hR _ (fun E' cs' => step_lone_go (by simp [stepG, stepG.exec, concF, hm, ht, concM, concI]))
    · rename_i id ops k ht
      obtain ⟨⟨ts, h'⟩, hd, hs1⟩ := R.bind_ok.1 hs
      cases hs1
      exact ⟨bot_fn (by rfl) cs, hdraw fr cs h id ops k ts h' hm ht hd D E K base frC csC w hR⟩
    · rename_i ops k ht
      cases hs
      exact ctl_step hR _ (fun E' cs' => step_lone_go (by simp [stepG, stepG.exec, concF, hm, ht, concM, concI]))
    · -- an operation
      rename_i ops i rest k ht
      split at hs
      · rename_i o ho
        obtain ⟨b, hb, hs1⟩ := R.bind_ok.1 hs
        cases b with
        | true => exact oper_sound ok hsub hext hs1 hR hm ht ho hb
        | false =>
          simp only [Bool.false_eq_true, if_false] at hs1
          obtain ⟨fr', hf, hs2⟩ := R.bind_ok.1 hs1
          cases hs2
          have hfc := finish_conc hf
          refine ⟨bot_fn (hfc E).2.2 cs, hR.ctl fr' ((hfc E).2.1 hR.wf.1) (fun E' cs' => step_lone_go ?_)⟩
          have hw := wanted_conc hR.wf.1 hb E'
          rw [← (hfc E').1]
          have h1 : (concF E' fr).todo = .inRegion ops (i :: rest) :: k.map (concI E') := by simp [concF, ht, concI]
          have h2 : (concF E' fr).mode = .run := by simp [concF, hm, concM]
          have h3 : Region.wanted o (yielded ops (concF E' fr).tmps) = false := hw
          generalize concF E' fr = g at *
          unfold stepG stepG.exec
          simp [h1, h2, ho, h3]
          rfl
      · cases hs
    · cases hs
  · rename_i hm
    exact unwind_sound ok hsub hext hs hm hR
end
end Go.Am
