/- An evaluator over abstract values, proved sound over the model's machine; no condition. Part: Draw3. -/
import Derived.Test.YthgcpbkifhnlpaaGreatAmDraw2
set_option linter.unusedSimpArgs false
set_option linter.unusedVariables false
set_option linter.unusedSectionVars false
set_option linter.deprecated false
namespace Go.Am
open Go.RowKit

section
variable {P : Program} {tab : Tab} (ok : TabOK P tab) {sub : FuncId → List AV → AH → R (List (AV × AH))} (hsub : SubOK P tab sub) (hext : ExtOK P tab)
variable {D : Nat → Prop} {E : Env} {K : Nat → Prop} {base : List Frame} {frC : Frame} {csC : List Frame} {w : World}

/-- As Gets, with the new blocks N. -/
def GetsN (P : Program) (M0 : Machine) (D N : Nat → Prop) (E : Env) (K : Nat → Prop) (m' : AM) (base : List Frame) (w : World) : Prop :=
  ∃ fr' cs' w' E', Steps P M0 (lone fr' cs' w') ∧ Rel (fun i => D i ∨ N i) E' K m' base fr' cs' w' ∧ Agree D E E' ∧ Kept K w w'

open Classical in
theorem Rel.oneN {m m' : AM} (hR : Rel D E K m base frC csC w) (M0 : Machine) (N : Nat → Prop) (f : Nat → Nat × Nat) (hN : ∀ i, N i → ¬ D i) (hlt : ∀ i, D i ∨ N i → i < m'.h.next) (hwf : m'.fr.WF ∧ ∀ f ∈ m'.cs, f.WF)
    (h1 : ∀ E', Agree D E E' → HOK E' m.h K w → concF E' m.fr = frC → m.cs.map (concF E') ++ base = csC → (∀ i, N i → E'.blk i = (f i).1 ∧ E'.cap i = (f i).2) → One P M0 E' K m' base w) :
    GetsN P M0 D N E K m' base w := by
  let E1 : Env := ⟨fun i => if N i then (f i).1 else E.blk i, fun i => if N i then (f i).2 else E.cap i⟩
  have ha : Agree D E E1 := by
    intro i hi
    have : ¬ N i := fun hn => hN i hn hi
    simp [E1, this]
  have hE : ∀ i, N i → E1.blk i = (f i).1 ∧ E1.cap i = (f i).2 := by
    intro i hi
    simp [E1, hi]
  have hE1 : ∀ E', Agree (fun i => D i ∨ N i) E1 E' → One P M0 E' K m' base w := by
    intro E' he
    have hd : Agree D E E' := ha.trans he (fun i hi => .inl hi)
    obtain ⟨g1, g2, g3⟩ := hR.all E' hd
    refine h1 E' hd g1 g2 g3 (fun i hi => ?_)
    have h2 := he i (.inr hi)
    have h3 := hE i hi
    exact ⟨h2.1.trans h3.1, h2.2.trans h3.2⟩
  obtain ⟨w', s1, s2, s3⟩ := hE1 E1 (Agree.refl _ _)
  refine ⟨_, _, w', E1, .one s1, ⟨?_, hlt, hwf⟩, ha, s3⟩
  intro E' he
  obtain ⟨w2, t1, t2, t3⟩ := hE1 E' he
  rw [s1] at t1
  obtain ⟨e1, e2, e3⟩ := lone_inj (by simpa using t1)
  subst e3
  exact ⟨t2, e1.symm, e2.symm⟩

variable {fr fr' : AFrame} {cs : List AFrame} {h h0 h1 h2 : AH} {ops : Array Oper} {i : Nat} {rest : List Nat} {k : List AItem} {o : Oper} {v : AV}

/-- What is there is told by D. -/
theorem Rel.live (hR : Rel D E K { fr, cs, h } base frC csC w) {i : Nat} {ob : AO} (hi : h.get i = some ob) : D i := by
  by_cases hd : D i
  · exact hd
  · exfalso
    have ha : Agree D E ⟨fun j => if j = i then w.heap.size else E.blk j, E.cap⟩ := by
      intro j hj
      have : ¬ j = i := fun e => hd (e ▸ hj)
      simp [this]
    have := (hR.all _ ha).1.lt hi
    simp at this

include ok in
/-- An operation that looks at a part h0 of the heap only. -/
theorem frame_step (hR : Rel D E K { fr, cs, h } base frC csC w) (a : AtOp frC ops i rest o) (hp : pureOp tab fr.tmps h0 o = .ok (v, h1)) (hf : fr.finish v = .ok fr')
    (hs : ∀ i o, h0.get i = some o → h.get i = some o) (hd0 : ∀ i o, h0.get i = some o → i < h0.next)
    (hg : ∀ i o, h2.get i = some o → h1.get i = some o ∨ (h.get i = some o ∧ h0.get i = none)) (hd2 : ∀ i o, h2.get i = some o → i < h2.next ∨ (h1.get i = some o ∧ h1.next ≤ h2.next))
    (N : Nat → Prop) (hN1 : h0.next < h1.next → N h0.next) (hN : ∀ i, N i → i = h0.next ∧ ¬ D i) (hlt : ∀ i, D i ∨ N i → i < h2.next) :
    GetsN P (lone frC csC w) D N E K { fr := fr', cs, h := h2 } base w := by
  obtain ⟨f, hgood⟩ := pureOp_sound ok hp w frC.eval
  have hfc := finish_conc hf
  have hρ : ∀ E', Agree D E E' → ∀ x u, ev fr.tmps x = .ok u → frC.eval x = conc E' u := by
    intro E' he x u hx
    rw [← (hR.all E' he).2.1]
    exact ev_conc hR.wf.1 E' hx
  refine hR.oneN (m' := { fr := fr', cs, h := h2 }) _ N (fun _ => f) (fun i hi => (hN i hi).2) hlt ⟨(hfc E).2.1 hR.wf.1, hR.wf.2⟩ ?_
  intro E' he H e1 e2 hE'
  obtain ⟨_, r, w', s1, s2, s3, s4⟩ := hgood E' _ (H.part hs hd0) (hρ E' he) (fun hlt => hE' h0.next (hN1 hlt))
  refine ⟨w', ?_, H.join s3 s4 hg (fun i o hi => (hd2 i o hi).elim id (fun h => Nat.lt_of_lt_of_le (s3.dom i o h.1) h.2)), s4.part⟩
  rw [a.value (.inr (pureOp_nd hp)) csC s1 s2, ← e1, ← e2, (hfc E').1]

theorem GetsN.gets {M0 : Machine} {N : Nat → Prop} {m' : AM} {lo : Nat} (hg : GetsN P M0 D N E K m' base w) (hlo : lo ≤ m'.h.next) (hN : ∀ i, N i → lo ≤ i) : Gets P lo M0 D E K m' base w := by
  obtain ⟨fr', cs', w', E', h1, h2, h3, h4⟩ := hg
  exact ⟨fr', cs', w', E', _, h1, h2, h3, fun i hi => .inl hi, h4, hlo, fun i hi => hi.elim .inl (fun h => .inr (hN i h))⟩

theorem Rel.restEq (hR : Rel D E K { fr, cs, h } base frC csC w) {E' : Env} (he : Agree D E E') : Rest E' h h0 K = Rest E h h0 K := by
  funext b
  apply propext
  constructor
  · rintro (hk | ⟨i, o, h1, h2, e⟩)
    · exact .inl hk
    · exact .inr ⟨i, o, h1, h2, by rw [e, (he i (hR.live h1)).1]⟩
  · rintro (hk | ⟨i, o, h1, h2, e⟩)
    · exact .inl hk
    · exact .inr ⟨i, o, h1, h2, by rw [e, (he i (hR.live h1)).1]⟩

include ok hsub hext in
theorem eff_step (hR : Rel D E K { fr, cs, h } base frC csC w) (a : AtOp frC ops i rest o) (hp : effOp tab sub fr.tmps h0 o = .ok (v, h1)) (hf : fr.finish v = .ok fr')
    (hs : ∀ i o, h0.get i = some o → h.get i = some o) (hd0 : ∀ i o, h0.get i = some o → i < h0.next)
    (hg : ∀ i o, h2.get i = some o → h1.get i = some o ∨ (h.get i = some o ∧ h0.get i = none)) (hd2 : ∀ i o, h2.get i = some o → i < h2.next ∨ (h1.get i = some o ∧ h1.next ≤ h2.next))
    (hle : h0.next ≤ h1.next) (hnx : h2.next = h1.next) (hltD : ∀ i, D i → i < h0.next) :
    Gets P h0.next (lone frC csC w) D E K { fr := fr', cs, h := h2 } base w := by
  have hpure : pureOp tab fr.tmps h0 o = .ok (v, h1) → Gets P h0.next (lone frC csC w) D E K { fr := fr', cs, h := h2 } base w := by
    intro hp
    refine GetsN.gets (frame_step ok hR a hp hf hs hd0 hg hd2 (fun i => i = h0.next ∧ h0.next < h1.next) (fun h => ⟨rfl, h⟩) (fun i hi => ⟨hi.1, fun hd => by have := hltD i hd; omega⟩) ?_) (by simp only; omega) (fun i hi => by omega)
    rintro i (hi | hi)
    · have := hltD i hi; omega
    · omega
  have hfc := finish_conc hf
  have hρ : ∀ E', Agree D E E' → ∀ x u, ev fr.tmps x = .ok u → frC.eval x = conc E' u := by
    intro E' he x u hx
    rw [← (hR.all E' he).2.1]
    exact ev_conc hR.wf.1 E' hx
  unfold effOp at hp
  split at hp
  · rename_i c hc
    split at hp
    · rename_i f hcf
      obtain ⟨args, hargs, hp1⟩ := R.bind_ok.1 hp
      obtain ⟨u, hu, hp2⟩ := R.bind_ok.1 hp1
      obtain ⟨d, hd, hp3⟩ := R.bind_ok.1 hp2
      clear hp hp1 hp2
      have hres : ∀ E', Agree D E E' → Deferred.ofValue (frC.eval f) (c.args.map frC.eval) = pure (concD E' d) := by
        intro E' he
        rw [← resolve_conc hd E', hρ E' he _ _ hu, ← evs_run (hρ E' he) _ _ hargs]
        congr 1
        simp [← Array.toList_inj]
      have hrob := concD_robust hres
      have hnd : ∀ c', o.op ≠ .defer c' := by rw [hc]; intro c' e; cases e
      have hctx : Ctx P (lone frC csC w) frC csC w .normal (concD E d) := ctx_apply a (.inr hnd) (by simp [execOp, hc, resolve, hcf, hres E (Agree.refl _ _)])
      split at hp3
      · rename_i g captured htg
        have hinv : ∀ E', Agree D E E' → invoke (concD E d).target (concD E d).args = callFunc g (concL E' (d.args ++ captured)).toArray := by
          intro E' he
          rw [← hrob E' he]
          simp only [concD, htg, concT, invoke, concL_append]
          simp
        split at hp3
        · rename_i fn hfn
          have hP := ok.fns g fn hfn
          have hn : fn.name ≠ "runtime.NumGoroutine" := by simpa using ok.nng g fn hfn
          split at hp3
          · rename_i body hb
            obtain ⟨outs, ho, hp4⟩ := R.bind_ok.1 hp3
            split at hp4
            · rename_i v' h' 
              cases hp4
              have hrun : ∀ a, (callFunc g a).run P w = .ok (.enter g a) w := by
                intro a
                simp [callFunc, hP, hn, hb]
              have hstep : ∀ E', Agree D E E' → Go.step P (lone frC csC w) = .next (lone (Frame.enter P g (concL E' (d.args ++ captured)).toArray .normal) (frC :: csC) w) := fun E' he =>
                hctx.enter _ _ _ (by rw [hinv E' he, hrun])
              have hargsC : ∀ E', Agree D E E' → (concL E' (d.args ++ captured)).toArray = (concL E (d.args ++ captured)).toArray := by
                intro E' he
                have h4 := hrun (concL E' (d.args ++ captured)).toArray
                rw [← hinv E' he, hinv E (Agree.refl _ _), hrun] at h4
                simpa using h4.symm
              obtain ⟨v2, h2', hmem, he2⟩ := hsub g fn body _ h0 _ hfn hb ho D E (Rest E h h0 K) w (concL E (d.args ++ captured)).toArray
                (fun E' he => ⟨by rw [← hR.restEq he]; exact (hR.all E' he).1.part hs hd0, hargsC E' he⟩) hltD (frC :: csC)
              rcases List.mem_cons.1 hmem with e | hmem
              · cases e
                obtain ⟨fr1, w', vC, E', D', s1, s2, s3, s4, s5, s6, s7, s8, s9, s10⟩ := he2
                refine ⟨frC.finish vC, csC, w', E', D', ?_, ⟨?_, ?_, ?_⟩, s5, s6, s8.part, by simp only; omega, s10⟩
                · exact (Steps.head (hstep E (Agree.refl _ _)) s1).trans (.one (step_leave_returned s3))
                · intro E'' he'
                  obtain ⟨g1, g2⟩ := s4 E'' he'
                  have hag := s5.trans he' s6
                  obtain ⟨k1, k2, k3⟩ := hR.all E'' hag
                  refine ⟨k1.join (by rw [hR.restEq hag]; exact g1) (by rw [hR.restEq hag]; exact s8) hg (fun i o hi => (hd2 i o hi).elim id (fun h => Nat.lt_of_lt_of_le (g1.dom i o h.1) h.2)), ?_, k3⟩
                  rw [← (hfc E'').1, ← g2, ← k2]
                · intro i hi; have := s7 i hi; simp only; omega
                · exact ⟨(hfc E).2.1 hR.wf.1, hR.wf.2⟩
              · cases hmem
            · cases hp4
          · rename_i hb
            obtain ⟨gg, hgg⟩ := hext g fn _ h0 v h1 hfn hb hp3 w
            refine GetsN.gets (N := fun i => i = h0.next ∧ h0.next < h1.next) (hR.oneN (m' := { fr := fr', cs, h := h2 }) _ _ (fun _ => gg) (fun i hi hd => by have := hltD i hd; omega) ?_ ⟨(hfc E).2.1 hR.wf.1, hR.wf.2⟩ ?_) (by simp only; omega) (fun i hi => by omega)
            · rintro i (hi | hi)
              · have := hltD i hi; simp only; omega
              · simp only; omega
            · intro E' he H e1 e2 hE'
              obtain ⟨_, w', s1, s2, s3⟩ := hgg E' _ (H.part hs hd0) (fun hlt => hE' h0.next ⟨rfl, hlt⟩)
              refine ⟨w', ?_, H.join s2 s3 hg (fun i o hi => (hd2 i o hi).elim id (fun h => Nat.lt_of_lt_of_le (s2.dom i o h.1) h.2)), s3.part⟩
              rw [hctx.value (conc E' v) w' (by rw [hinv E' he, s1]) rfl, ← e1, ← e2, (hfc E').1]
        · cases hp3
      · cases hp3
    · cases hp
    · exact hpure hp
  · cases hp
  · cases hp
  · cases hp
  · cases hp
  · exact hpure hp
end
end Go.Am
