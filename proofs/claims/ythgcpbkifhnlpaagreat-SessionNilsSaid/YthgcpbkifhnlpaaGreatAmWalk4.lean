/- An evaluator over abstract values, proved sound over the model's machine; no condition. Part: Walk4. -/
import Derived.Test.YthgcpbkifhnlpaaGreatAmNxt
set_option linter.unusedSimpArgs false
set_option linter.unusedVariables false
set_option linter.unusedSectionVars false
set_option linter.deprecated false
namespace Go.Am
open Go.RowKit

section
variable {P : Program} {tab : Tab} (ok : TabOK P tab) {sub : FuncId → List AV → AH → R (List (AV × AH))} (hsub : SubOK P tab sub) (hext : ExtOK P tab)
variable {D : Nat → Prop} {E : Env} {K : Nat → Prop} {base : List Frame} {frC : Frame} {csC : List Frame} {w : World}
variable {fr : AFrame} {cs : List AFrame} {h : AH} {ops : Array Oper} {i : Nat} {rest : List Nat} {k : List AItem} {o : Oper}

/-- The concrete frame is at the operation. -/
structure AtOp (frC : Frame) (ops : Array Oper) (i : Nat) (rest : List Nat) (o : Oper) : Prop where
  mode : frC.mode = .run
  todo : ∃ k, frC.todo = .inRegion ops (i :: rest) :: k
  op : ops[i]? = some o
  wanted : Region.wanted o (yielded ops frC.tmps) = true

theorem atOp (hR : Rel D E K { fr, cs, h } base frC csC w) (hm : fr.mode = .run) (ht : fr.todo = .inRegion ops (i :: rest) :: k) (ho : ops[i]? = some o) (hw : wanted ops o fr.tmps = .ok true) : AtOp frC ops i rest o := by
  obtain ⟨_, e, _⟩ := hR.all E (Agree.refl _ _)
  subst e
  refine ⟨by simp [concF, hm, concM], ⟨k.map (concI E), by simp [concF, ht, concI]⟩, ho, ?_⟩
  exact wanted_conc hR.wf.1 hw E

theorem AtOp.step (a : AtOp frC ops i rest o) (hd : frC.roundOf = none ∨ ∀ c, o.op ≠ .defer c) (csC : List Frame) (w : World) :
    stepG P true { frame := frC, callers := csC, status := .running, dying := none } w = stepG.apply P true frC csC none (execOp frC.eval o) w := by
  obtain ⟨k, hk⟩ := a.todo
  exact step_op a.mode hk a.op a.wanted hd w

theorem AtOp.value (a : AtOp frC ops i rest o) (hd : frC.roundOf = none ∨ ∀ c, o.op ≠ .defer c) (csC : List Frame) {w w' : World} {r : Next} {x : Value} (hs : (execOp frC.eval o).run P w = .ok r w') (hr : Yields r x) :
    Go.step P (lone frC csC w) = .next (lone (frC.finish x) csC w') :=
  step_lone_go (by rw [a.step hd, apply_value hs hr])

theorem pureOp_nd {ts : T AV} {v : AV} {h' : AH} (hp : pureOp tab ts h o = .ok (v, h')) : ∀ c, o.op ≠ .defer c := by
  intro c e
  unfold pureOp at hp
  rw [e] at hp
  cases hp

include ok in
theorem pure_step (hR : Rel D E K { fr, cs, h } base frC csC w) (a : AtOp frC ops i rest o) {v : AV} {h' : AH} (hp : pureOp tab fr.tmps h o = .ok (v, h')) {fr' : AFrame} (hf : fr.finish v = .ok fr') :
    Out P h.next (lone frC csC w) D E K (bot fr cs) base w (.next { fr := fr', cs, h := h' }) := by
  obtain ⟨f, hgood⟩ := pureOp_sound ok hp w frC.eval
  have hfc := finish_conc hf
  have hρ : ∀ E', Agree D E E' → ∀ x u, ev fr.tmps x = .ok u → frC.eval x = conc E' u := by
    intro E' he x u hx
    rw [← (hR.all E' he).2.1]
    exact ev_conc hR.wf.1 E' hx
  obtain ⟨E1, ha1, hE1⟩ := hR.near (fun _ => f)
  have hn := (hgood E1 K (hR.all E1 ha1).1 (hρ E1 ha1) (fun _ => hE1 h.next (Nat.le_refl _))).1
  refine ⟨bot_fn (hfc E).2.2 cs, ?_⟩
  refine hR.one (m' := { fr := fr', cs, h := h' }) _ (fun _ => f) hn.1 ⟨(hfc E).2.1 hR.wf.1, hR.wf.2⟩ ?_
  intro E' he H e1 e2 hE'
  obtain ⟨_, r, w', s1, s2, s3, s4⟩ := hgood E' K H (hρ E' he) (fun hlt => hE' h.next (Nat.le_refl _) hlt)
  refine ⟨w', ?_, s3, s4⟩
  rw [a.value (.inr (pureOp_nd hp)) csC s1 s2, ← e1, ← e2, (hfc E').1]

theorem resolve_conc {u : AV} {args : List AV} {d : AD} (hd : resolveV u args = .ok d) (E : Env) : Deferred.ofValue (conc E u) (concL E args).toArray = pure (concD E d) := by
  unfold resolveV at hd
  split at hd
  · cases hd
    simp [Deferred.ofValue, conc, concD, concT]
  · cases hd
    simp [Deferred.ofValue, conc, concD, concT]
  · cases hd

theorem concD_robust {f : Value} {a : Array Value} {d : AD} (h : ∀ E', Agree D E E' → Deferred.ofValue f a = pure (concD E' d)) : ∀ E', Agree D E E' → concD E' d = concD E d := by
  intro E' he
  have h1 := h E' he
  rw [h E (Agree.refl _ _)] at h1
  have h2 : (pure (concD E d) : Sem Deferred).run default default = (pure (concD E' d) : Sem Deferred).run default default := by rw [h1]
  simpa using h2.symm

theorem ctx_apply (a : AtOp frC ops i rest o) (hd : frC.roundOf = none ∨ ∀ c, o.op ≠ .defer c) {dC : Deferred} (hx : (execOp frC.eval o).run P w = (invoke dC.target dC.args).run P w) :
    Ctx P (lone frC csC w) frC csC w .normal dC := by
  obtain ⟨k, hk⟩ := a.todo
  refine ⟨fun f x w' hr => ?_, fun l f t x b w' hr => ?_, fun v w' hr _ => ?_⟩
  · refine step_lone_go ?_
    rw [a.step hd]
    simp [stepG.apply, hx, hr, hk]
  · refine step_lone_go ?_
    rw [a.step hd]
    simp [stepG.apply, hx, hr]
  · exact a.value hd csC (by rw [hx, hr]) (.inl rfl)

theorem tryRecover_conc {r : Option (AV × List AFrame)} (hr : tryRecover fr cs = .ok r) (E : Env) (base : List Frame) :
    Go.tryRecover (concF E fr) (cs.map (concF E) ++ base) = r.map (fun x => (conc E x.1, x.2.map (concF E) ++ base)) := by
  unfold tryRecover at hr
  split at hr
  · rename_i _ c rest hk
    have hk' : (concF E fr).kind = .deferred := hk
    split at hr
    · rename_i v older hm
      cases hr
      have hm' : (concF E c).mode = .panicking ({ v := conc E v, recovered := false } :: older.map (concP E)) := by simp [concF, hm, concM, concP]
      simp only [List.map_cons, List.cons_append, Go.tryRecover, hk', hm', Option.map_some]
      rfl
    · rename_i hm
      cases hr
      simp only [List.map_cons, List.cons_append, Go.tryRecover, hk', Option.map_none]
      split
      · rename_i heq
        exfalso
        simp only [concF, concM] at heq
        split at heq
        · cases heq
        · cases heq
        · rename_i chain hch
          cases chain with
          | nil => simp at heq
          | cons p older =>
            obtain ⟨v', rc⟩ := p
            simp [concP] at heq
            obtain ⟨⟨_, h2⟩, _⟩ := heq
            subst h2
            exact hm _ _ hch
      · rfl
  · rename_i _ c rest hk
    cases hr
    have hk' : (concF E fr).kind = .normal := hk
    simp only [List.map_cons, List.cons_append]
    unfold Go.tryRecover
    simp [hk']
  · cases hr

theorem tryRecover_wf {v : AV} {cs' : List AFrame} (hr : tryRecover fr cs = .ok (some (v, cs'))) : (∀ f ∈ cs, f.WF) → (∀ f ∈ cs', f.WF) ∧ (∀ fr', fr'.fn = fr.fn → bot fr' cs' = bot fr cs) := by
  intro hwf
  unfold tryRecover at hr
  split at hr
  · rename_i _ c rest hk
    split at hr
    · cases hr
      refine ⟨fun f hf => ?_, fun fr' hf => ?_⟩
      · rcases List.mem_cons.1 hf with rfl | hf
        · exact hwf c List.mem_cons_self
        · exact hwf f (List.mem_cons_of_mem _ hf)
      · show bot _ rest = bot c rest
        exact bot_fn (by rfl) rest
    · cases hr
  · cases hr
  · cases hr

include ok hsub hext in
theorem oper_sound {out : AOut} (hop : oper tab sub fr cs h o = .ok out) (hR : Rel D E K { fr, cs, h } base frC csC w) (hm : fr.mode = .run) (ht : fr.todo = .inRegion ops (i :: rest) :: k)
    (ho : ops[i]? = some o) (hw : wanted ops o fr.tmps = .ok true) : Out P h.next (lone frC csC w) D E K (bot fr cs) base w out := by
  have a := atOp hR hm ht ho hw
  have hρ : ∀ E', Agree D E E' → ∀ x u, ev fr.tmps x = .ok u → frC.eval x = conc E' u := by
    intro E' he x u hx
    rw [← (hR.all E' he).2.1]
    exact ev_conc hR.wf.1 E' hx
  have hpure : ∀ {out : AOut}, (do let (v, h') ← pureOp tab fr.tmps h o; R.ok (AOut.next { fr := ← fr.finish v, cs, h := h' }) : R AOut) = .ok out → Out P h.next (lone frC csC w) D E K (bot fr cs) base w out := by
    intro out hp
    obtain ⟨⟨v, h'⟩, h1, hp1⟩ := R.bind_ok.1 hp
    obtain ⟨fr', h2, hp2⟩ := R.bind_ok.1 hp1
    cases hp2
    exact pure_step ok hR a h1 h2
  unfold oper at hop
  split at hop
  · rename_i c hc
    split at hop
    · -- a call of a value
      rename_i f hf
      obtain ⟨args, hargs, hop1⟩ := R.bind_ok.1 hop
      obtain ⟨u, hu, hop2⟩ := R.bind_ok.1 hop1
      obtain ⟨d, hd, hop3⟩ := R.bind_ok.1 hop2
      have hres : ∀ E', Agree D E E' → Deferred.ofValue (frC.eval f) (c.args.map frC.eval) = pure (concD E' d) := by
        intro E' he
        rw [← resolve_conc hd E', hρ E' he _ _ hu, ← evs_run (hρ E' he) _ _ hargs]
        congr 1
        simp [← Array.toList_inj]
      have hrob := concD_robust hres
      refine callTarget_sound ok hsub hext hop3 hR _ (dC := concD E d) (ctx_apply a (.inr (by rw [hc]; intro c' e; cases e)) ?_) hrob
      simp [execOp, hc, resolve, hf, hres E (Agree.refl _ _)]
    · -- recover
      rename_i hb
      split at hop
      · rename_i hround
        have hr0 : frC.roundOf = none := by
          rw [← (hR.all E (Agree.refl _ _)).2.1]
          simp [concF, hround]
        obtain ⟨r, hr, hop1⟩ := R.bind_ok.1 hop
        have hnd : frC.roundOf = none ∨ ∀ c, o.op ≠ .defer c := .inl hr0
        have hrun : (execOp frC.eval o).run P w = .ok .recover w := by
          simp [execOp, hc, resolve, hb, invoke, Go.builtin]
        have hstep : ∀ E', Agree D E E' → (stepG P true { frame := frC, callers := csC, status := .running, dying := none } w).bare =
            (match r.map (fun x => (conc E' x.1, x.2.map (concF E') ++ base)) with
              | some (v, callers) => .go { frame := frC.finish v, callers, status := .running, dying := none } w
              | none => .go { frame := frC.finish .nilIface, callers := csC, status := .running, dying := none } w) := by
          intro E' he
          obtain ⟨_, e1, e2⟩ := hR.all E' he
          rw [← tryRecover_conc hr E' base, e1, e2, a.step hnd]
          simp only [stepG.apply, hrun, hr0, Sem.runT_eq, if_true]
          cases Go.tryRecover frC csC <;> simp
        split at hop1
        · rename_i v cs' 
          obtain ⟨fr', hf, hop2⟩ := R.bind_ok.1 hop1
          cases hop2
          have hfc := finish_conc hf
          obtain ⟨g1, g2⟩ := tryRecover_wf hr hR.wf.2
          refine ⟨g2 _ (hfc E).2.2, ?_⟩
          refine hR.one (m' := { fr := fr', cs := cs', h }) _ (fun _ => (0, 0)) (Nat.le_refl _) ⟨(hfc E).2.1 hR.wf.1, g1⟩ ?_
          intro E' he H e1 e2 _
          refine ⟨w, step_lone_go ?_, H, Kept.refl K w⟩
          rw [hstep E' he, ← (hfc E').1, e1]
          rfl
        · obtain ⟨fr', hf, hop2⟩ := R.bind_ok.1 hop1
          cases hop2
          have hfc := finish_conc hf
          refine ⟨bot_fn (hfc E).2.2 cs, ?_⟩
          refine hR.one (m' := { fr := fr', cs, h }) _ (fun _ => (0, 0)) (Nat.le_refl _) ⟨(hfc E).2.1 hR.wf.1, hR.wf.2⟩ ?_
          intro E' he H e1 e2 _
          refine ⟨w, step_lone_go ?_, H, Kept.refl K w⟩
          rw [hstep E' he, ← (hfc E').1, e1, e2]
          rfl
      · cases hop
    · exact hpure hop
  · -- defer
    rename_i c hc
    split at hop
    · rename_i f hf hround
      have hr0 : frC.roundOf = none := by
        rw [← (hR.all E (Agree.refl _ _)).2.1]
        simp [concF, hround]
      obtain ⟨args, hargs, hop1⟩ := R.bind_ok.1 hop
      obtain ⟨u, hu, hop2⟩ := R.bind_ok.1 hop1
      obtain ⟨d, hd, hop3⟩ := R.bind_ok.1 hop2
      obtain ⟨fr', hfin, hop4⟩ := R.bind_ok.1 hop3
      cases hop4
      have hres : ∀ E', Agree D E E' → Deferred.ofValue (frC.eval f) (c.args.map frC.eval) = pure (concD E' d) := by
        intro E' he
        rw [← resolve_conc hd E', hρ E' he _ _ hu, ← evs_run (hρ E' he) _ _ hargs]
        congr 1
        simp [← Array.toList_inj]
      have hfc := finish_conc hfin
      refine ⟨(bot_fn (hfc E).2.2 cs).trans (bot_fn (by rfl) cs), ?_⟩
      refine hR.one (m' := { fr := fr', cs, h }) _ (fun _ => (0, 0)) (Nat.le_refl _) ⟨(hfc E).2.1 hR.wf.1, hR.wf.2⟩ ?_
      intro E' he H e1 e2 _
      refine ⟨w, step_lone_go ?_, H, Kept.refl K w⟩
      have hrun : (execOp frC.eval o).run P w = .ok (.defer (concD E' d)) w := by
        simp [execOp, hc, resolve, hf, hres E' he]
      rw [a.step (.inl hr0), ← (hfc E').1, ← e2]
      simp only [stepG.apply, hrun, Sem.runT_eq, if_true, GStep.bare_after, GStep.bare_go]
      rw [← e1]
      rfl
    · cases hop
  · -- panic
    rename_i x hx
    obtain ⟨u, hu, hop1⟩ := R.bind_ok.1 hop
    split at hop1
    · rename_i t v
      cases hop1
      have hnd : ∀ c, o.op ≠ .defer c := by rw [hx]; intro c e; cases e
      refine ⟨bot_fn (by unfold AFrame.raise; split <;> rfl) cs, ?_⟩
      refine hR.one (m' := { fr := fr.raise [{ v := .iface t v, recovered := false }], cs, h }) _ (fun _ => (0, 0)) (Nat.le_refl _) ⟨by unfold AFrame.raise; split <;> exact hR.wf.1, hR.wf.2⟩ ?_
      intro E' he H e1 e2 _
      refine ⟨w, step_lone_go ?_, H, Kept.refl K w⟩
      have hrun : (execOp frC.eval o).run P w = .halt (.panic (conc E' (.iface t v))) w := by
        simp [execOp, hx, hρ E' he _ _ hu, conc, Instr.panic, goPanic, Sem.run, Result.andThen]
      rw [a.step (.inr hnd), ← e2]
      simp only [stepG.apply, hrun, Sem.runT_eq, if_true, GStep.bare_after, GStep.bare_go]
      rw [← e1]
      simp [Frame.raise, AFrame.raise, concF, hm, concM, concP]
    · cases hop1
  · -- next
    rename_i it s hn
    obtain ⟨u, hu, hop1⟩ := R.bind_ok.1 hop
    obtain ⟨l, hl, hop2⟩ := R.bind_ok.1 hop1
    obtain ⟨ms, hms, hop3⟩ := R.bind_ok.1 hop2
    have hnd : ∀ c, o.op ≠ .defer c := by rw [hn]; intro c e; cases e
    obtain ⟨j, hj⟩ := nextOp_run (P := P) hl w o.type
    obtain ⟨v, h', hv, hh, _⟩ := hj E K (hR.all E (Agree.refl _ _)).1
    obtain ⟨y, hy, hg⟩ := mapM_mem hms _ (List.mem_of_getElem? hv)
    obtain ⟨fr', hfin, hg1⟩ := R.bind_ok.1 hg
    cases hg1
    have hfc := finish_conc hfin
    have hgets : bot fr' cs = bot fr cs ∧ Gets P h.next (lone frC csC w) D E K { fr := fr', cs, h := h' } base w := by
      refine ⟨bot_fn (hfc E).2.2 cs, ?_⟩
      refine hR.one (m' := { fr := fr', cs, h := h' }) _ (fun _ => (0, 0)) (by simp only; omega) ⟨(hfc E).2.1 hR.wf.1, hR.wf.2⟩ ?_
      intro E' he H e1 e2 _
      obtain ⟨v2, h2, hv2, _, w', s1, s2, s3⟩ := hj E' K H
      rw [hv] at hv2
      cases hv2
      refine ⟨w', ?_, s2, s3⟩
      rw [a.value (.inr hnd) csC (ofV (s := Instr.next (frC.eval it) s o.type) (by simp [execOp, hn]) (by rw [hρ E' he _ _ hu]; exact s1)) (.inl rfl), ← e1, ← e2, (hfc E').1]
    split at hop3
    · rename_i m
      cases hop3
      rcases List.mem_cons.1 hy with rfl | hy
      · exact hgets
      · cases hy
    · cases hop3
      exact ⟨_, hy, hgets⟩
  · exact hpure hop
end
end Go.Am
