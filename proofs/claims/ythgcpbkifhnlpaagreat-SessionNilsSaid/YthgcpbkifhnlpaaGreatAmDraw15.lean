/- An evaluator over abstract values, proved sound over the model's machine; no condition. Part: Draw15. -/
import Derived.Test.YthgcpbkifhnlpaaGreatAmDraw14
set_option linter.unusedSimpArgs false
set_option linter.unusedVariables false
set_option linter.unusedSectionVars false
set_option linter.deprecated false
namespace Go.Am
open Go.RowKit

section
variable {P : Program} {tab : Tab} (ok : TabOK P tab) {sub : FuncId → List AV → AH → R (List (AV × AH))} (hsub : SubOK P tab sub) (hext : ExtOK P tab)

theorem Xof_none (n j : Nat) : ¬ Xof (Array.replicate n false) j := by
  unfold Xof
  rw [Array.getD_eq_getD_getElem?, Array.getElem?_replicate]
  split <;> simp

include ok hsub hext in
theorem draw_sound (hmix : P.follows .mixedOrders = true) : DrawOK P tab sub := by
  intro fr cs h id ops k ts h' hm ht hd D E K base frC csC w hR
  unfold draw at hd
  obtain ⟨_, hlt, hd1⟩ := R.bind_ok.1 hd
  obtain ⟨sF, hloop, hd2⟩ := R.bind_ok.1 hd1
  cases hd2
  have hlt := R.check_ok.1 hlt
  let s0 : DS := { ts := fr.tmps, h, anc := .e, reads := [], allocs := [] }
  let ord := w.tape w.drawn (.order frC.fn id)
  let l := Region.linearise.go .any ops ops.size ord (Array.replicate ops.size false) []
  have hstep : ∀ E', Agree D E E' → Go.step P (lone frC csC w) = .next (lone (concF E' { fr with tmps := fr.tmps, todo := .inRegion ops l :: k }) csC w.drew) := by
    intro E' he
    have e1 := (hR.all E' he).2.1
    simp only at e1
    refine step_lone_go ?_
    have hmC : frC.mode = .run := by rw [← e1]; simp [concF, hm, concM]
    have htC : frC.todo = .code (.region id ops true) :: k.map (concI E') := by rw [← e1]; simp [concF, ht, concI]
    have hrun : (choose (.order frC.fn id)).run P w = .ok ord w.drew := by
      simp only [choose, Sem.run, Question.forced, Bool.false_eq_true, if_false, Question.cut]
      rfl
    have hsch : Region.schedule (P.follows .mixedOrders) ops ord = l := by
      simp only [Region.schedule, hmix, Bool.true_or, if_true]
      rfl
    have hgoal : concF E' { fr with tmps := fr.tmps, todo := .inRegion ops l :: k } = { frC with todo := .inRegion ops l :: k.map (concI E') } := by
      rw [← e1]; rfl
    rw [hgoal]
    unfold stepG stepG.exec
    simp only [hmC, htC, Bool.not_true, Bool.false_eq_true, if_false, hrun, hsch, GStep.bare_go]
  have hdom := (hR.all E (Agree.refl _ _)).1.dom
  have H0 : DInv tab ops fr.nt fr.tmps h.next s0 (Xof (Array.replicate ops.size false)) := by
    have hnone : ∀ j, s0.anc.get j = none := fun _ => rfl
    refine ⟨fun j hj => absurd hj (Xof_none _ _), fun j a hj => absurd hj (Xof_none _ _), ?_, ?_, ?_, fun _ _ => rfl, ?_, fun x hx => (by cases hx), Nat.le_refl _, hR.wf.1, fun x hx => (by cases hx), hdom⟩
    · intro j hj; rw [hnone] at hj; cases hj
    · intro j a o hj; rw [hnone] at hj; cases hj
    · intro i j oi oj d hi; rw [hnone] at hi; cases hi
    · intro j hj; rw [hnone] at hj; cases hj
  have Q0 : RInv ops fr cs k base s0 (Xof (Array.replicate ops.size false)) D E K fr.tmps h l (concF E { fr with tmps := fr.tmps, todo := .inRegion ops l :: k }) csC w.drew := by
    refine ⟨⟨fun E' he => ?_, hR.dom, hR.wf⟩, fun i ob => ⟨fun h => ⟨h, fun x hx => (by cases hx)⟩, fun h => h.1⟩, rfl, fun j o t hx => absurd hx (Xof_none _ _), fun _ _ => rfl, fun x hx => by cases hx⟩
    obtain ⟨g1, g2, g3⟩ := hR.all E' he
    refine ⟨g1.drew, ?_, g3⟩
    have h1 := hstep E' he
    rw [hstep E (Agree.refl _ _)] at h1
    exact (lone_inj (by simpa using h1)).1.symm
  obtain ⟨s1, hpass, htodo⟩ := loop_todo hloop
  have hpl : ∀ j o, ops.toList[j]? = some o → ops[0 + j]? = some o := by
    intro j o hj; simpa using hj
  obtain ⟨hR1, Q1⟩ := pass_look ops.toList 0 s0 s1 h hpl hpass H0 Q0
  have H1 := drawPass_ok ops.toList 0 s0 s1 hpl hpass H0
  obtain ⟨frC', csC', w', D', E', f1, f2, f3, f4, f5, f6, f7⟩ := mid ok hsub hext hm hlt ops.size ord (Array.replicate ops.size false) s1 sF D E fr.tmps hR1 _ csC w.drew (by simp)
    (by unfold unl; have := List.length_filter_le (fun i => !(Array.replicate ops.size false).getD i false) (List.range ops.size); simpa using this) htodo H1 Q1
  exact ⟨frC', csC', w', E', D', Steps.head (hstep E (Agree.refl _ _)) f1, f2, f3, f4, (Kept.drew K w).trans f5, f7, f6⟩
end
end Go.Am
