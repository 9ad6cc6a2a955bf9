/- An evaluator over abstract values, proved sound over the model's machine; no condition. Part: Run. -/
import Derived.Test.YthgcpbkifhnlpaaGreatAmWalk8
import Derived.Calls
set_option linter.unusedSimpArgs false
set_option linter.unusedVariables false
set_option linter.unusedSectionVars false
set_option linter.deprecated false
namespace Go.Am
open Go.RowKit

section
variable {P : Program} {tab : Tab} (ok : TabOK P tab) (hext : ExtOK P tab) (hdraw : ∀ sub, SubOK P tab sub → DrawOK P tab sub)

def RunOK (P : Program) (tab : Tab) (m : AM) (outs : List (AV × AH)) : Prop :=
  ∀ (D : Nat → Prop) (E : Env) (K : Nat → Prop) (base : List Frame) (frC : Frame) (csC : List Frame) (w : World), Rel D E K m base frC csC w →
    ∃ v h', (v, h') ∈ outs ∧ Ends P m.h.next (lone frC csC w) D E K v h' base (bot m.fr m.cs) w

include ok hext hdraw in
theorem run_sound : ∀ n, (∀ m outs, run tab n m = .ok outs → RunOK P tab m outs) ∧
    (∀ l outs, runs tab n l = .ok outs → ∀ m ∈ l, ∀ outs', (∀ x ∈ outs, x ∈ outs') → RunOK P tab m outs') := by
  intro n
  induction n with
  | zero =>
    refine ⟨fun m outs h => ?_, fun l outs h => ?_⟩
    · simp only [run] at h; cases h
    · cases l <;> (simp only [runs] at h; cases h)
  | succ n ih =>
    refine ⟨fun m outs h => ?_, fun l outs h => ?_⟩
    · simp only [run] at h
      let sub : FuncId → List AV → AH → R (List (AV × AH)) := fun f args h => match tab.fns.get f with
        | some fn => match fn.body with
          | some body => run tab n { fr := AFrame.enter fn f body args .normal, cs := [], h }
          | none => .no "run: body"
        | none => .no "run: function"
      have hsub : SubOK P tab sub := by
        intro f fn body args h outs hfn hb ho D E K w argsC hargs hdom cs
        simp only [sub, hfn, hb] at ho
        have hP := ok.fns f fn hfn
        have hR : Rel D E K { fr := AFrame.enter fn f body args .normal, cs := [], h } cs (Frame.enter P f argsC .normal) cs w := by
          refine ⟨fun E' he => ?_, hdom, enter_wf _ _ _ _ _, fun f hf => by cases hf⟩
          obtain ⟨h1, h2⟩ := hargs E' he
          refine ⟨h1, ?_, rfl⟩
          rw [← h2, enter_conc hP hb]
        exact ih.1 _ _ ho D E K cs _ cs w hR
      intro D E K base frC csC w hR
      change (match step tab sub m with
        | .no w => R.no w
        | .ok (.done v h) => .ok [(v, h)]
        | .ok (.next m') => run tab n m'
        | .ok (.alts l) => runs tab n l) = .ok outs at h
      cases hs : step tab sub m with
      | no w => rw [hs] at h; cases h
      | ok out =>
        rw [hs] at h
        have ho := step_sound ok hsub hext (hdraw sub hsub) hs hR
        cases out with
        | done v hh =>
          cases h
          exact ⟨v, hh, List.mem_cons_self, ho⟩
        | next m' =>
          obtain ⟨hb, fr', cs', w', E', D', s1, s2, s3, s4, s5, s6, s7⟩ := ho
          obtain ⟨v, h', hm, he⟩ := ih.1 m' outs h D' E' K base fr' cs' w' s2
          rw [hb] at he
          exact ⟨v, h', hm, Ends.trans s1 s3 s4 s5 s6 s7 he⟩
        | alts l =>
          obtain ⟨m', hml, hb, fr', cs', w', E', D', s1, s2, s3, s4, s5, s6, s7⟩ := ho
          obtain ⟨v, h', hm, he⟩ := ih.2 l outs h m' hml outs (fun _ hx => hx) D' E' K base fr' cs' w' s2
          rw [hb] at he
          exact ⟨v, h', hm, Ends.trans s1 s3 s4 s5 s6 s7 he⟩
    · intro m hm outs' hsub'
      cases l with
      | nil => cases hm
      | cons x l =>
        simp only [runs] at h
        obtain ⟨a, ha, h1⟩ := R.bind_ok.1 h
        obtain ⟨b, hb, h2⟩ := R.bind_ok.1 h1
        cases h2
        rcases List.mem_cons.1 hm with rfl | hm
        · intro D E K base frC csC w hR
          obtain ⟨v, h', hx, he⟩ := ih.1 m a ha D E K base frC csC w hR
          exact ⟨v, h', hsub' _ (List.mem_append_left _ hx), he⟩
        · exact ih.2 l b hb m hm outs' (fun x hx => hsub' x (List.mem_append_right _ hx))

include ok hext hdraw in
/-- A CALL: all that the abstract run gives is all that may come. -/
theorem calls_of_run {n : Nat} {f : FuncId} {fn : Func} {body : Code} {args : List AV} {outs : List (AV × AH)} (hfn : tab.fns.get f = some fn) (hb : fn.body = some body) {h : AH}
    (hr : run tab n { fr := AFrame.enter fn f body args .normal, cs := [], h } = .ok outs) {E : Env} {K : Nat → Prop} {w : World} {argsC : Array Value}
    {D : Nat → Prop} (hargs : ∀ E', Agree D E E' → HOK E' h K w ∧ (concL E' args).toArray = argsC) (hdom : ∀ i, D i → i < h.next) :
    Calls P f argsC w (fun e w' => ∃ v h' E' D', (v, h') ∈ outs ∧ e = .returned (conc E' v) ∧ HOK E' h' K w' ∧ Kept K w w' ∧ Agree D E E' ∧ (∀ i, D i → D' i) ∧
      (∀ E'', Agree D' E' E'' → HOK E'' h' K w' ∧ conc E'' v = conc E' v)) := by
  intro cs
  have hP := ok.fns f fn hfn
  have hR : Rel D E K { fr := AFrame.enter fn f body args .normal, cs := [], h } cs (Frame.enter P f argsC .normal) cs w := by
    refine ⟨fun E' he => ?_, hdom, enter_wf _ _ _ _ _, fun f hf => by cases hf⟩
    obtain ⟨h1, h2⟩ := hargs E' he
    refine ⟨h1, ?_, rfl⟩
    rw [← h2, enter_conc hP hb]
  obtain ⟨v, h', hm, fr', w', v', E', D', s1, s2, s3, s4, s5, s6, s7, s8, s9, s10⟩ := (run_sound ok hext hdraw n).1 _ _ hr D E K cs _ cs w hR
  obtain ⟨g1, g2⟩ := s4 E' (Agree.refl _ _)
  subst g2
  exact ⟨.returned (conc E' v), w', fr', ⟨v, h', E', D', hm, rfl, g1, s8, s5, s6, s4⟩, s1, s2, s3⟩
end
end Go.Am
