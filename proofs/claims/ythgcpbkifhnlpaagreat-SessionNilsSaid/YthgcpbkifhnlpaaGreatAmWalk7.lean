/- An evaluator over abstract values, proved sound over the model's machine; no condition. Part: Walk7. -/
import Derived.Test.YthgcpbkifhnlpaaGreatAmWalk6
set_option linter.unusedSimpArgs false
set_option linter.unusedVariables false
set_option linter.unusedSectionVars false
set_option linter.deprecated false
namespace Go.Am
open Go.RowKit

section
variable {P : Program} {tab : Tab} (ok : TabOK P tab) {sub : FuncId → List AV → AH → R (List (AV × AH))} (hsub : SubOK P tab sub) (hext : ExtOK P tab)
variable {D : Nat → Prop} {E : Env} {K : Nat → Prop} {base : List Frame} {frC : Frame} {csC : List Frame} {w : World}
variable {fr : AFrame} {cs : List AFrame} {h : AH}

/-- The same place, with new blocks. -/
theorem Rel.grow {m : AM} (hR : Rel D E K m base frC csC w) (m' : AM) (fr' : Frame) (w' : World) (f : Nat → Nat × Nat) (hn : m.h.next ≤ m'.h.next) (hwf : m'.fr.WF ∧ ∀ f ∈ m'.cs, f.WF) (hcs : m'.cs = m.cs)
    (h1 : ∀ E', Agree D E E' → HOK E' m.h K w → concF E' m.fr = frC → (∀ i, m.h.next ≤ i → i < m'.h.next → E'.blk i = (f i).1 ∧ E'.cap i = (f i).2) → HOK E' m'.h K w' ∧ concF E' m'.fr = fr') :
    ∃ D1 E1, Rel D1 E1 K m' base fr' csC w' ∧ Agree D E E1 ∧ (∀ i, D i → D1 i) ∧ (∀ i, m.h.next ≤ i → i < m'.h.next → ∀ E', Agree D1 E1 E' → E'.blk i = (f i).1) ∧ (∀ i, D1 i → D i ∨ m.h.next ≤ i) := by
  obtain ⟨E1, ha, hE⟩ := hR.near f
  let D1 : Nat → Prop := fun i => D i ∨ (m.h.next ≤ i ∧ i < m'.h.next)
  have hnew : ∀ i, m.h.next ≤ i → i < m'.h.next → ∀ E', Agree D1 E1 E' → E'.blk i = (f i).1 ∧ E'.cap i = (f i).2 := by
    intro i hi hj E' he
    have h2 := he i (.inr ⟨hi, hj⟩)
    have h3 := hE i hi
    exact ⟨h2.1.trans h3.1, h2.2.trans h3.2⟩
  refine ⟨D1, E1, ⟨fun E' he => ?_, fun i hi => ?_, hwf⟩, ha, fun i hi => .inl hi, fun i hi hj E' he => (hnew i hi hj E' he).1, fun i hi => hi.elim .inl (fun h => .inr h.1)⟩
  · have hd : Agree D E E' := ha.trans he (fun i hi => .inl hi)
    obtain ⟨g1, g2, g3⟩ := hR.all E' hd
    obtain ⟨k1, k2⟩ := h1 E' hd g1 g2 (fun i hi hj => hnew i hi hj E' he)
    exact ⟨k1, k2, by rw [hcs]; exact g3⟩
  · rcases hi with hi | hi
    · have := hR.dom i hi; omega
    · exact hi.2

theorem ctx_of_apply {M0 : Machine} {frC' : Frame} {fr0 : Frame} {w0 : World} {s : Sem Next} {dC : Deferred} (hM : M0 = lone fr0 csC w0)
    (hx : (stepG P true { frame := fr0, callers := csC, status := .running, dying := none } w0).bare = (stepG.apply P true frC' csC none s w).bare)
    (ht : ∃ l k, frC'.todo = .inRangeFunc l :: k) (hs : s.run P w = (invoke dC.target dC.args).run P w) : Ctx P M0 frC' csC w .normal dC := by
  subst hM
  obtain ⟨l, k, ht⟩ := ht
  refine ⟨fun f x w' hr => ?_, fun l f t x b w' hr => ?_, fun v w' hr _ => ?_⟩
  · refine step_lone_go ?_
    rw [hx]
    simp [stepG.apply, hs, hr, ht]
  · refine step_lone_go ?_
    rw [hx]
    simp [stepG.apply, hs, hr]
  · refine step_lone_go ?_
    rw [hx, apply_value (by rw [hs, hr]) (.inl rfl)]

/-- What a region says whose order is open. -/
def DrawOK (P : Program) (tab : Tab) (sub : FuncId → List AV → AH → R (List (AV × AH))) : Prop :=
  ∀ (fr : AFrame) (cs : List AFrame) (h : AH) (id : Nat) (ops : Array Oper) (k : List AItem) (ts : T AV) (h' : AH), fr.mode = .run → fr.todo = .code (.region id ops true) :: k → draw tab sub ops fr.nt fr.tmps h = .ok (ts, h') →
    ∀ (D : Nat → Prop) (E : Env) (K : Nat → Prop) (base : List Frame) (frC : Frame) (csC : List Frame) (w : World), Rel D E K { fr, cs, h } base frC csC w →
      Gets P h.next (lone frC csC w) D E K { fr := { fr with tmps := ts, todo := k }, cs, h := h' } base w

include ok hsub hext in
theorem range_sound {f : Operand} {ps : Array Tmp} {a b : Code} {k : List AItem} {out : AOut} (hm : fr.mode = .run) (ht : fr.todo = .code (.rangeFunc f ps a b) :: k) (hR : Rel D E K { fr, cs, h } base frC csC w)
    (hs : (do
      let d ← resolveV (← ev fr.tmps f) [.yld (bif fr.round.isNone then h.next + 1 else h.next)]
      match fr.round with
      | none =>
        let h1 := h.new (.dfr (some []))
        let h2 := h1.new (.loop .ready none fr.fn fr.tmps fr.nt ps a b h.next)
        callTarget tab sub { fr with todo := .inRange (h.next + 1) :: k, defers := { target := .collected h.next, args := [] } :: fr.defers } cs h2 d .normal
      | some l =>
        match h.get l with
        | some (.loop _ _ _ _ _ _ _ _ dd) =>
          let h2 := h.new (.loop .ready none fr.fn fr.tmps fr.nt ps a b dd)
          callTarget tab sub { fr with todo := .inRange h.next :: k } cs h2 d .normal
        | _ => .no "rangeFunc: loop" : R AOut) = .ok out) : Out P h.next (lone frC csC w) D E K (bot fr cs) base w out := by
  obtain ⟨u, hu, hs1⟩ := R.bind_ok.1 hs
  obtain ⟨d, hd, hs2⟩ := R.bind_ok.1 hs1
  clear hs hs1
  have hρ : ∀ E', Agree D E E' → ∀ x u, ev fr.tmps x = .ok u → frC.eval x = conc E' u := by
    intro E' he x u hx
    rw [← (hR.all E' he).2.1]
    exact ev_conc hR.wf.1 E' hx
  have hmC : frC.mode = .run := by rw [← (hR.all E (Agree.refl _ _)).2.1]; simp [concF, hm, concM]
  have htC : frC.todo = .code (.rangeFunc f ps a b) :: k.map (concI E) := by rw [← (hR.all E (Agree.refl _ _)).2.1]; simp [concF, ht, concI]
  have hfnC : frC.fn = fr.fn := by rw [← (hR.all E (Agree.refl _ _)).2.1]; rfl
  have hrob : ∀ E', Agree D E E' → concF E' fr = concF E fr := fun E' he => (hR.all E' he).2.1.trans (hR.all E (Agree.refl _ _)).2.1.symm
  split at hs2
  · rename_i hround
    simp only [hround, Option.isNone_none, cond_true] at hd
    have hr0 : frC.roundOf = none := by rw [← (hR.all E (Agree.refl _ _)).2.1]; simp [concF, hround]
    let N := w.heap.size
    let w1 := w.alloc (.deferred (some []))
    let w2 := w1.alloc (.loop { state := .ready, pending := none, fn := fr.fn, tmps := frC.tmps, params := ps, assign := a, body := b, defers := N })
    let frC' : Frame := { frC with todo := .inRangeFunc (N + 1) :: k.map (concI E), defers := { target := .collected N, args := #[] } :: frC.defers, mode := .run }
    have hparts : ∀ E', Agree D E E' → concTmps E' fr.tmps fr.nt = frC.tmps ∧ k.map (concI E') = k.map (concI E) ∧ fr.defers.map (concD E') = frC.defers ∧ concM E' fr.mode = frC.mode ∧ fr.kind = frC.kind ∧ fr.round.map E'.blk = frC.roundOf := by
      intro E' he
      have e1 := (hR.all E' he).2.1
      obtain ⟨_, g2, _⟩ := concF_ext (hrob E' he)
      simp only [ht, List.map_cons, List.cons.injEq] at g2
      simp only at e1
      exact ⟨by rw [← e1]; rfl, g2.2, by rw [← e1]; rfl, by rw [← e1]; rfl, by rw [← e1]; rfl, by rw [← e1]; rfl⟩
    obtain ⟨D1, E1, hR1, ha1, hd1, hb1, hw1⟩ := hR.grow { fr := { fr with todo := .inRange (h.next + 1) :: k, defers := { target := .collected h.next, args := [] } :: fr.defers }, cs, h := (h.new (.dfr (some []))).new (.loop .ready none fr.fn fr.tmps fr.nt ps a b h.next) }
      frC' w2 (fun i => (N + (i - h.next), 0)) (by simp only [AH.next_new]; omega) ⟨hR.wf.1, hR.wf.2⟩ rfl (by
        intro E' he H e1 hE'
        have b1 : E'.blk h.next = N := by have := (hE' h.next (Nat.le_refl _) (by simp only [AH.next_new]; omega)).1; simpa using this
        have b2 : E'.blk (h.next + 1) = N + 1 := by have := (hE' (h.next + 1) (by simp) (by simp only [AH.next_new]; omega)).1; simpa using this
        have H1 : HOK E' (h.new (.dfr (some []))) K w1 := H.new b1 (by simp [OOK])
        have hsz : w1.heap.size = N + 1 := by simp [w1, N]
        obtain ⟨p1, p2, p3, p4, p5, p6⟩ := hparts E' he
        refine ⟨H1.new (by simp only [AH.next_new]; rw [b2, hsz]) ⟨?_, hR.wf.1⟩, ?_⟩
        · rw [p1, b1]
        · simp only [concF, List.map_cons, concI, concD, concT, b1, b2, p1, p2, p3, p4, p5, p6, frC', hfnC, concL_nil, hmC])
    have hrun : (Instr.enterLoop frC.fn frC.tmps ps a b frC.roundOf).run P w = .ok (N + 1, [{ target := .collected N, args := #[] }]) w2 := by
      rw [hr0, hfnC]
      unfold Instr.enterLoop
      simp only [Sem.run_bind, run_newObj, Result.andThen_ok, Sem.run_pure]
      simp [N]
      rfl
    have hresv : ∀ E', Agree D1 E1 E' → Deferred.ofValue (frC.eval f) #[.func (.yield (N + 1)) #[] #[]] = pure (concD E' d) := by
      intro E' he
      rw [← resolve_conc hd E', hρ E' (ha1.trans he hd1) _ _ hu]
      have h3 : E'.blk (h.next + 1) = N + 1 := by
        have := hb1 (h.next + 1) (by simp) (by simp only [AH.next_new]; omega) E' he
        simpa using this
      simp only [concL_cons, concL_nil, conc, h3]
    have hdrob := concD_robust hresv
    rw [← bot_fn (fr := fr) (fr' := { fr with todo := .inRange (h.next + 1) :: k, defers := { target := .collected h.next, args := [] } :: fr.defers }) rfl cs]
    refine Out.trans (Steps.refl P _) ha1 hd1 ?_ (by simp only [AH.next_new]; omega) hw1 (callTarget_sound ok hsub hext hs2 hR1 (lone frC csC w) (dC := concD E1 d) ?_ hdrob)
    · exact (Kept.alloc (hR.all E (Agree.refl _ _)).1.kb _).trans (Kept.alloc (fun b hb => by have := (hR.all E (Agree.refl _ _)).1.kb b hb; simp [w1]; omega) _)
    · refine ctx_of_apply (s := do let d ← resolve frC'.eval { callee := .value f, args := #[.const (.func (.yield (N + 1)) #[] #[])], argTypes := #[] } 0; invoke d.target d.args) rfl ?_ ⟨N + 1, _, rfl⟩ ?_
      · unfold stepG stepG.exec
        simp only [hmC, htC, Sem.runT_eq, hrun, GStep.bare_after]
        rfl
      · have he : frC'.eval f = frC.eval f := by cases f <;> rfl
        have h2 := hresv E1 (Agree.refl _ _)
        simp only [Sem.run_bind, resolve, he]
        have hargs : Array.map frC'.eval #[.const (.func (.yield (N + 1)) #[] #[])] = #[.func (.yield (N + 1)) #[] #[]] := by simp [Frame.eval]
        rw [hargs, h2]
        simp
  · rename_i l hround
    simp only [hround, Option.isNone_some, cond_false] at hd
    split at hs2
    · rename_i st pd fn' ts nt ps' a' b' dd hl
      let N := w.heap.size
      let blkL := E.blk l
      have hloop : ∀ E', Agree D E E' → ∃ o, w.heap[E'.blk l]? = some (.loop o) ∧ o.defers = E'.blk dd := by
        intro E' he
        obtain ⟨o, ho, hoo, _⟩ := (hR.all E' he).1.obj l _ hl
        subst hoo
        exact ⟨_, ho, rfl⟩
      have hr0 : ∀ E', Agree D E E' → frC.roundOf = some (E'.blk l) := by
        intro E' he
        rw [← (hR.all E' he).2.1]; simp [concF, hround]
      obtain ⟨o, ho, hod⟩ := hloop E (Agree.refl _ _)
      have hdd : ∀ E', Agree D E E' → E'.blk dd = o.defers := by
        intro E' he
        obtain ⟨o', ho', hod'⟩ := hloop E' he
        have h1 := hr0 E' he
        rw [hr0 E (Agree.refl _ _)] at h1
        simp only [Option.some.injEq] at h1
        rw [← h1, ho] at ho'
        cases ho'
        exact hod'.symm
      let w2 := w.alloc (.loop { state := .ready, pending := none, fn := fr.fn, tmps := frC.tmps, params := ps, assign := a, body := b, defers := o.defers })
      let frC' : Frame := { frC with todo := .inRangeFunc N :: k.map (concI E), mode := .run }
      have hparts : ∀ E', Agree D E E' → concTmps E' fr.tmps fr.nt = frC.tmps ∧ k.map (concI E') = k.map (concI E) ∧ fr.defers.map (concD E') = frC.defers ∧ concM E' fr.mode = frC.mode ∧ fr.kind = frC.kind ∧ fr.round.map E'.blk = frC.roundOf := by
        intro E' he
        have e1 := (hR.all E' he).2.1
        obtain ⟨_, g2, _⟩ := concF_ext (hrob E' he)
        simp only [ht, List.map_cons, List.cons.injEq] at g2
        simp only at e1
        exact ⟨by rw [← e1]; rfl, g2.2, by rw [← e1]; rfl, by rw [← e1]; rfl, by rw [← e1]; rfl, by rw [← e1]; rfl⟩
      obtain ⟨D1, E1, hR1, ha1, hd1, hb1, hw1⟩ := hR.grow { fr := { fr with todo := .inRange h.next :: k }, cs, h := h.new (.loop .ready none fr.fn fr.tmps fr.nt ps a b dd) }
        frC' w2 (fun _ => (N, 0)) (by simp) ⟨hR.wf.1, hR.wf.2⟩ rfl (by
          intro E' he H e1 hE'
          have b1 : E'.blk h.next = N := (hE' h.next (Nat.le_refl _) (by simp)).1
          obtain ⟨p1, p2, p3, p4, p5, p6⟩ := hparts E' he
          refine ⟨H.new b1 ⟨?_, hR.wf.1⟩, ?_⟩
          · rw [p1, hdd E' he]
          · simp only [concF, List.map_cons, concI, b1, p1, p2, p3, p4, p5, p6, frC', hfnC, hmC])
      have hrun : (Instr.enterLoop frC.fn frC.tmps ps a b frC.roundOf).run P w = .ok (N, []) w2 := by
        rw [hr0 E (Agree.refl _ _), hfnC]
        unfold Instr.enterLoop Instr.getLoop
        simp only [Sem.run_bind, run_getO ho (by simp), run_newObj, Result.andThen_ok, Sem.run_pure]
        rfl
      have hresv : ∀ E', Agree D1 E1 E' → Deferred.ofValue (frC.eval f) #[.func (.yield N) #[] #[]] = pure (concD E' d) := by
        intro E' he
        rw [← resolve_conc hd E', hρ E' (ha1.trans he hd1) _ _ hu]
        have h3 : E'.blk h.next = N := hb1 h.next (Nat.le_refl _) (by simp) E' he
        simp only [concL_cons, concL_nil, conc, h3]
      have hdrob := concD_robust hresv
      rw [← bot_fn (fr := fr) (fr' := { fr with todo := .inRange h.next :: k }) rfl cs]
      refine Out.trans (Steps.refl P _) ha1 hd1 ?_ (by simp only [AH.next_new]; omega) hw1 (callTarget_sound ok hsub hext hs2 hR1 (lone frC csC w) (dC := concD E1 d) ?_ hdrob)
      · exact Kept.alloc (hR.all E (Agree.refl _ _)).1.kb _
      · refine ctx_of_apply (s := do let d ← resolve frC'.eval { callee := .value f, args := #[.const (.func (.yield N) #[] #[])], argTypes := #[] } 0; invoke d.target d.args) rfl ?_ ⟨N, _, rfl⟩ ?_
        · unfold stepG stepG.exec
          simp only [hmC, htC, Sem.runT_eq, hrun, GStep.bare_after]
          rfl
        · have he : frC'.eval f = frC.eval f := by cases f <;> rfl
          have h2 := hresv E1 (Agree.refl _ _)
          simp only [Sem.run_bind, resolve, he]
          have hargs : Array.map frC'.eval #[.const (.func (.yield N) #[] #[])] = #[.func (.yield N) #[] #[]] := by simp [Frame.eval]
          rw [hargs, h2]
          simp
    · cases hs2
end
end Go.Am
