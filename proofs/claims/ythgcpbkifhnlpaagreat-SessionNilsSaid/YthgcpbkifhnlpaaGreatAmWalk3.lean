/- An evaluator over abstract values, proved sound over the model's machine; no condition. Part: Walk3. -/
import Derived.Test.YthgcpbkifhnlpaaGreatAmWalk2
set_option linter.unusedSimpArgs false
set_option linter.unusedVariables false
set_option linter.unusedSectionVars false
set_option linter.deprecated false
namespace Go.Am
open Go.RowKit

instance : LawfulMonad R := LawfulMonad.mk'
  (id_map := by intro α x; cases x <;> rfl)
  (pure_bind := by intros; rfl)
  (bind_assoc := by intro α β γ x f g; cases x <;> rfl)

theorem run_getO {P : Program} {w : World} {r : Nat} {o : Obj} (h : w.heap[r]? = some o) (hn : ∀ c e f, o ≠ .cells c e f) : (getObj r).run P w = .ok o w := by
  simp only [getObj, Sem.run, h]

theorem mapM_mem {α β : Type} {g : α → R β} : ∀ {l : List α} {ms : List β}, l.mapM g = .ok ms → ∀ x ∈ l, ∃ y ∈ ms, g x = .ok y := by
  intro l
  induction l with
  | nil => intro ms _ x hx; cases hx
  | cons a l ih =>
    intro ms h x hx
    rw [List.mapM_cons] at h
    obtain ⟨b, hb, h1⟩ := R.bind_ok.1 h
    obtain ⟨bs, hbs, h2⟩ := R.bind_ok.1 h1
    cases h2
    rcases List.mem_cons.1 hx with rfl | hx
    · exact ⟨b, List.mem_cons_self, hb⟩
    · obtain ⟨y, hy, hg⟩ := ih hbs x hx
      exact ⟨y, List.mem_cons_of_mem _ hy, hg⟩

/-- What an abstract step says of the concrete machine. -/
def Out (P : Program) (lo : Nat) (M0 : Machine) (D : Nat → Prop) (E : Env) (K : Nat → Prop) (b : FuncId) (base : List Frame) (w : World) : AOut → Prop
  | .next m' => bot m'.fr m'.cs = b ∧ Gets P lo M0 D E K m' base w
  | .alts l => ∃ m' ∈ l, bot m'.fr m'.cs = b ∧ Gets P lo M0 D E K m' base w
  | .done v h => Ends P lo M0 D E K v h base b w

theorem Out.trans {P : Program} {D D1 : Nat → Prop} {E E1 : Env} {K : Nat → Prop} {base : List Frame} {M0 M1 : Machine} {w w1 : World} {b : FuncId} {out : AOut} {lo lo1 : Nat}
    (hs : Steps P M0 M1) (ha : Agree D E E1) (hd : ∀ i, D i → D1 i) (hk : Kept K w w1) (hlo : lo ≤ lo1) (hnew : ∀ i, D1 i → D i ∨ lo ≤ i) (hg : Out P lo1 M1 D1 E1 K b base w1 out) : Out P lo M0 D E K b base w out := by
  cases out with
  | next m' => exact ⟨hg.1, hg.2.trans hs ha hd hk hlo hnew⟩
  | alts l =>
    obtain ⟨m', h1, h2, h3⟩ := hg
    exact ⟨m', h1, h2, h3.trans hs ha hd hk hlo hnew⟩
  | done v h => exact Ends.trans hs ha hd hk hlo hnew hg

/-- What the runs of calls say. -/
def SubOK (P : Program) (tab : Tab) (sub : FuncId → List AV → AH → R (List (AV × AH))) : Prop :=
  ∀ f fn body args h outs, tab.fns.get f = some fn → fn.body = some body → sub f args h = .ok outs → ∀ (D : Nat → Prop) (E : Env) (K : Nat → Prop) (w : World) (argsC : Array Value),
    (∀ E', Agree D E E' → HOK E' h K w ∧ (concL E' args).toArray = argsC) → (∀ i, D i → i < h.next) → ∀ cs, ∃ v h', (v, h') ∈ outs ∧ Ends P h.next (lone (Frame.enter P f argsC .normal) cs w) D E K v h' cs f w
/-- What the functions without a body do. -/
def ExtOK (P : Program) (tab : Tab) : Prop :=
  ∀ f fn args h v h', tab.fns.get f = some fn → fn.body = none → externAt tab f fn args h = .ok (v, h') → ∀ w, ∃ g : Nat × Nat, ∀ E K, HOK E h K w → (h.next < h'.next → E.blk h.next = g.1 ∧ E.cap h.next = g.2) →
    (h.next ≤ h'.next ∧ h'.next ≤ h.next + 1) ∧ ∃ w', (callFunc f (concL E args).toArray).run P w = .ok (.value (conc E v)) w' ∧ HOK E h' K w' ∧ Kept K w w'

/-- How the machine enters what it calls. -/
structure Ctx (P : Program) (M0 : Machine) (frC : Frame) (csC : List Frame) (w : World) (kind : CallKind) (dC : Deferred) : Prop where
  enter : ∀ f a w', (invoke dC.target dC.args).run P w = .ok (.enter f a) w' → Go.step P M0 = .next (lone (Frame.enter P f a kind) (frC :: csC) w')
  round : ∀ l f t a b w', (invoke dC.target dC.args).run P w = .ok (.round l f t a b) w' → Go.step P M0 = .next (lone (Frame.round l f t a b kind) (frC :: csC) w')
  value : ∀ v w', (invoke dC.target dC.args).run P w = .ok (.value v) w' → kind = .normal → Go.step P M0 = .next (lone (frC.finish v) csC w')

section
variable {P : Program} {tab : Tab} (ok : TabOK P tab) {sub : FuncId → List AV → AH → R (List (AV × AH))} (hsub : SubOK P tab sub) (hext : ExtOK P tab)
variable {D : Nat → Prop} {E : Env} {K : Nat → Prop} {base : List Frame} {frC : Frame} {csC : List Frame} {w : World}

include ok hsub hext in
theorem callFn_sound {fr : AFrame} {cs : List AFrame} {h : AH} {f : FuncId} {args : List AV} {kind : CallKind} {out : AOut} (hc : callFn tab sub fr cs h f args kind = .ok out)
    (hR : Rel D E K { fr, cs, h } base frC csC w) (M0 : Machine) {dC : Deferred} (hctx : Ctx P M0 frC csC w kind dC)
    (hinv : ∀ E', Agree D E E' → invoke dC.target dC.args = callFunc f (concL E' args).toArray) : Out P h.next M0 D E K (bot fr cs) base w out := by
  unfold callFn at hc
  split at hc
  · rename_i fn hfn
    have hP := ok.fns f fn hfn
    have hn : fn.name ≠ "runtime.NumGoroutine" := by simpa using ok.nng f fn hfn
    split at hc
    · rename_i body hb
      have hrun : ∀ a, (callFunc f a).run P w = .ok (.enter f a) w := by
        intro a
        simp [callFunc, hP, hn, hb]
      have hstep : ∀ E', Agree D E E' → Go.step P M0 = .next (lone (Frame.enter P f (concL E' args).toArray kind) (frC :: csC) w) := fun E' he =>
        hctx.enter _ _ _ (by rw [hinv E' he, hrun])
      by_cases hm : (tab.merge f && kind == .normal) = true
      · simp only [hm, cond_true] at hc
        obtain ⟨outs, ho, hc1⟩ := R.bind_ok.1 hc
        obtain ⟨ms, hms, hc2⟩ := R.bind_ok.1 hc1
        cases hc2
        have hk : kind = .normal := eq_of_beq ((Bool.and_eq_true _ _ ▸ hm).2 : (kind == .normal) = true)
        subst hk
        have hargs : ∀ E', Agree D E E' → (concL E' args).toArray = (concL E args).toArray := by
          intro E' he
          have h1 := hstep E' he
          rw [hstep E (Agree.refl _ _)] at h1
          obtain ⟨e, _, _⟩ := lone_inj (by simpa using h1)
          have h2 := hinv E' he
          have h3 := hinv E (Agree.refl _ _)
          rw [h2] at h3
          have h4 := hrun (concL E' args).toArray
          rw [h3, hrun] at h4
          simpa using h4.symm
        obtain ⟨v, h', hmem, he⟩ := hsub f fn body args h outs hfn hb ho D E K w (concL E args).toArray (fun E' he => ⟨(hR.all E' he).1, hargs E' he⟩) hR.dom (frC :: csC)
        obtain ⟨fr', w', v', E', D', s1, s2, s3, s4, s5, s6, s7, s8, s9, s10⟩ := he
        obtain ⟨y, hy, hg⟩ := mapM_mem hms _ hmem
        obtain ⟨fr1, hfin, hg1⟩ := R.bind_ok.1 hg
        cases hg1
        have hfc := finish_conc hfin
        refine ⟨_, hy, bot_fn (hfc E).2.2 cs, frC.finish v', csC, w', E', D', ?_, ⟨?_, s7, ?_⟩, s5, s6, s8, s9, s10⟩
        · exact (Steps.head (hstep E (Agree.refl _ _)) s1).trans (.one (step_leave_returned s3))
        · intro E'' he'
          obtain ⟨g1, g2⟩ := s4 E'' he'
          obtain ⟨k1, k2, k3⟩ := hR.all E'' (s5.trans he' s6)
          refine ⟨g1, ?_, k3⟩
          rw [← (hfc E'').1, ← g2, ← k2]
        · exact ⟨(hfc E).2.1 hR.wf.1, hR.wf.2⟩
      · have hm' : (tab.merge f && kind == .normal) = false := by simpa using hm
        simp only [hm', cond_false] at hc
        cases hc
        refine ⟨rfl, ?_⟩
        refine hR.one (m' := { fr := AFrame.enter fn f body args kind, cs := fr :: cs, h }) M0 (fun _ => (0, 0)) (Nat.le_refl _) ⟨enter_wf _ _ _ _ _, ?_⟩ ?_
        · intro g hg
          rcases List.mem_cons.1 hg with rfl | hg
          · exact hR.wf.1
          · exact hR.wf.2 g hg
        · intro E' he H e1 e2 _
          refine ⟨w, ?_, H, Kept.refl K w⟩
          rw [hstep E' he, enter_conc hP hb]
          simp only [List.map_cons, List.cons_append, e1, e2]
    · rename_i hb
      split at hc
      · obtain ⟨⟨v, h'⟩, hx, hc1⟩ := R.bind_ok.1 hc
        obtain ⟨fr1, hfin, hc2⟩ := R.bind_ok.1 hc1
        cases hc2
        obtain ⟨g, hg⟩ := hext f fn args h v h' hfn hb hx w
        have hfc := finish_conc hfin
        refine ⟨bot_fn (hfc E).2.2 cs, ?_⟩
        obtain ⟨E1, ha1, hE1⟩ := hR.near (fun _ => g)
        have hn := (hg E1 K (hR.all E1 ha1).1 (fun _ => hE1 h.next (Nat.le_refl _))).1
        refine hR.one (m' := { fr := fr1, cs, h := h' }) M0 (fun _ => g) hn.1 ⟨(hfc E).2.1 hR.wf.1, hR.wf.2⟩ ?_
        intro E' he H e1 e2 hE'
        obtain ⟨_, w', s1, s2, s3⟩ := hg E' K H (fun hlt => hE' h.next (Nat.le_refl _) hlt)
        refine ⟨w', ?_, s2, s3⟩
        rw [hctx.value (conc E' v) w' (by rw [hinv E' he, s1]) rfl, ← e1, ← e2, (hfc E').1]
      · cases hc
  · cases hc

omit ok hsub hext in
theorem callYield_sound {fr : AFrame} {cs : List AFrame} {h : AH} {l : Nat} {args : List AV} {kind : CallKind} {out : AOut} (hc : callYield fr cs h l args kind = .ok out)
    (hR : Rel D E K { fr, cs, h } base frC csC w) (M0 : Machine) {dC : Deferred} (hctx : Ctx P M0 frC csC w kind dC)
    (hinv : ∀ E', Agree D E E' → invoke dC.target dC.args = Instr.yield (E'.blk l) (concL E' args).toArray) : Out P h.next M0 D E K (bot fr cs) base w out := by
  unfold callYield at hc
  split at hc
  · rename_i st pd fn ts nt ps a b d hl
    obtain ⟨_, hck, hc1⟩ := R.bind_ok.1 hc
    cases hc1
    have hck := Nat.eq_of_beq_eq_true (R.check_ok.1 hck)
    have hwf : ∀ t, nt ≤ t → ts.get t = none := by
      obtain ⟨o, _, _, hw⟩ := (hR.all E (Agree.refl _ _)).1.obj l _ hl
      exact hw
    refine ⟨rfl, ?_⟩
    refine hR.one (m' := { fr := { fn, nt, tmps := putParams ts nt ps.toList args, todo := [.code a, .beginRound, .code b], defers := [], mode := .run, kind, round := some l }, cs := fr :: cs, h }) M0 (fun _ => (0, 0)) (Nat.le_refl _)
      ⟨(putParams_conc E nt ps.toList args ts hwf).2, ?_⟩ ?_
    · intro g hg
      rcases List.mem_cons.1 hg with rfl | hg
      · exact hR.wf.1
      · exact hR.wf.2 g hg
    · intro E' he H e1 e2 _
      refine ⟨w, ?_, H, Kept.refl K w⟩
      obtain ⟨o, ho, hoo, _⟩ := H.obj l _ hl
      subst hoo
      have hp := (putParams_conc E' nt ps.toList args ts hwf).1
      have hrun : (Instr.yield (E'.blk l) (concL E' args).toArray).run P w = .ok (.round (E'.blk l) fn (concTmps E' (putParams ts nt ps.toList args) nt) a b) w := by
        have hsz : (concL E' args).toArray.size = ps.size := by simp [hck]
        have hz : (ps.zip (concL E' args).toArray).foldl (fun tmps (t, a) => tmps.setIfInBounds t a) (concTmps E' ts nt) = concTmps E' (putParams ts nt ps.toList args) nt := by
          rw [← hp, ← Array.foldl_toList, Array.toList_zip]
        unfold Instr.yield Instr.getLoop
        simp only [Sem.run_bind, run_getO ho (by simp), Result.andThen_ok, Sem.run_pure, hsz, ne_eq, not_true_eq_false, if_false, hz]
      rw [hctx.round _ _ _ _ _ w (by rw [hinv E' he, hrun])]
      simp only [List.map_cons, List.cons_append, e1, e2]
      simp [Frame.round, concF, concI, concM]
  · cases hc

include ok hsub hext in
theorem callTarget_sound {fr : AFrame} {cs : List AFrame} {h : AH} {d : AD} {kind : CallKind} {out : AOut} (hc : callTarget tab sub fr cs h d kind = .ok out)
    (hR : Rel D E K { fr, cs, h } base frC csC w) (M0 : Machine) {dC : Deferred} (hctx : Ctx P M0 frC csC w kind dC) (hd : ∀ E', Agree D E E' → concD E' d = dC) : Out P h.next M0 D E K (bot fr cs) base w out := by
  unfold callTarget at hc
  split at hc
  · rename_i f captured ht
    refine callFn_sound ok hsub hext hc hR M0 hctx (fun E' he => ?_)
    rw [← hd E' he]
    simp only [concD, ht, concT, invoke, concL_append]
    simp
  · rename_i l ht
    refine callYield_sound hc hR M0 hctx (fun E' he => ?_)
    rw [← hd E' he]
    simp only [concD, ht, concT, invoke]
  · cases hc
end
end Go.Am
