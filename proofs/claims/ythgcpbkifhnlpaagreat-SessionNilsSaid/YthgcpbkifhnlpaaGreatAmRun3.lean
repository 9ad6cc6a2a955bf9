/- An evaluator over abstract values, proved sound over the model's machine; no condition. Part: Run3. -/
import Derived.Test.YthgcpbkifhnlpaaGreatAmRun2
set_option linter.unusedSimpArgs false
set_option linter.unusedVariables false
set_option linter.unusedSectionVars false
set_option linter.deprecated false
namespace Go.Am
open Go.RowKit

/-! run2 once more: with the calls that were promised. -/
def callAt (ts : T AV) (o : Oper) : Option (FuncId × List AV) :=
  match o.op with
  | .call c =>
    match c.callee with
    | .value f =>
      match ev ts f with
      | .ok (.fn (.func g) first captured) =>
        match evs ts c.args.toList with
        | .ok args => some (g, first ++ args ++ captured)
        | _ => none
      | _ => none
    | _ => none
  | _ => none
def madeAt (m : AM) : List (FuncId × List AV) :=
  match m.fr.todo with
  | .inRegion ops (i :: _) :: _ =>
    match ops[i]? with
    | some o =>
      match callAt m.fr.tmps o with
      | some x => [x]
      | none => []
    | none => []
  | _ => []
mutual
def runs3 (tab : Tab) (con : FuncId → List AV → AH → Option (List (AV × AH))) : Nat → List AM → R (List (AV × AH) × List (FuncId × List AV))
  | 0, _ => .no "fuel"
  | _ + 1, [] => .ok ([], [])
  | n + 1, m :: l => do
    let a ← run3 tab con n m
    let b ← runs3 tab con n l
    .ok (a.1 ++ b.1, a.2 ++ b.2)
def run3 (tab : Tab) (con : FuncId → List AV → AH → Option (List (AV × AH))) : Nat → AM → R (List (AV × AH) × List (FuncId × List AV))
  | 0, _ => .no "fuel"
  | n + 1, m =>
    match step2 tab con (fun f args h => match tab.fns.get f with
        | some fn => match fn.body with
          | some body => run tab n { fr := AFrame.enter fn f body args .normal, cs := [], h }
          | none => .no "run: body"
        | none => .no "run: function") m with
    | .no w => .no w
    | .ok (.done v h) => .ok ([(v, h)], [])
    | .ok (.next m') => run3 tab con n m'
    | .ok (.alts l) =>
      match runs3 tab con n l with
      | .ok r => .ok (r.1, madeAt m ++ r.2)
      | .no w => .no w
end
/-- What is promised of one call. -/
def ConAt (P : Program) (tab : Tab) (con : FuncId → List AV → AH → Option (List (AV × AH))) (I : World → Prop) (K : Nat → Prop) (x : FuncId × List AV) : Prop :=
  ∀ fn body h outs, tab.fns.get x.1 = some fn → fn.body = some body → con x.1 x.2 h = some outs → ∀ (D : Nat → Prop) (E : Env) (w : World) (argsC : Array Value), I w →
    (∀ E', Agree D E E' → HOK E' h K w ∧ (concL E' x.2).toArray = argsC) → (∀ i, D i → i < h.next) → ∀ cs, ∃ v h', (v, h') ∈ outs ∧ Ends P h.next (lone (Frame.enter P x.1 argsC .normal) cs w) D E K v h' cs x.1 w

section
variable {P : Program} {tab : Tab} (ok : TabOK P tab) {sub : FuncId → List AV → AH → R (List (AV × AH))} (hsub : SubOK P tab sub) (hext : ExtOK P tab) (hdraw : DrawOK P tab sub)
variable {con : FuncId → List AV → AH → Option (List (AV × AH))} {I : World → Prop}
variable {D : Nat → Prop} {E : Env} {K : Nat → Prop} {base : List Frame} {frC : Frame} {csC : List Frame} {w : World}

include ok hsub hext hdraw in
theorem opStep_sound3 {m : AM} {out : AOut} (hcon : ∀ l, out = .alts l → ∀ x ∈ madeAt m, ConAt P tab con I K x) {ops : Array Oper} {i : Nat} {rest : List Nat} {k : List AItem} {o : Oper} (hI : I w) (hm : m.fr.mode = .run) (ht : m.fr.todo = .inRegion ops (i :: rest) :: k) (ho : ops[i]? = some o)
    (hs : opStep tab con sub m o = .ok out) (hR : Rel D E K m base frC csC w) : Out P m.h.next (lone frC csC w) D E K (bot m.fr m.cs) base w out := by
  have hold := fun (h : step tab sub m = .ok out) => step_sound ok hsub hext hdraw h hR
  unfold opStep at hs
  split at hs
  · rename_i hw
    unfold opStep.wanted' at hw
    rw [ht] at hw
    simp only at hw
    have hw' : wanted ops o m.fr.tmps = .ok true := by
      split at hw
      · rename_i b hb; subst hw; exact hb
      · cases hw
    obtain ⟨fr, cs, h⟩ := m
    simp only at hs hm ht hw' hold ⊢
    have a := atOp hR hm ht ho hw'
    have hρ : ∀ E', Agree D E E' → ∀ x u, ev fr.tmps x = .ok u → frC.eval x = conc E' u := by
      intro E' he x u hx
      rw [← (hR.all E' he).2.1]
      exact ev_conc hR.wf.1 E' hx
    split at hs
    · rename_i v hv
      obtain ⟨fr', hf, hs1⟩ := R.bind_ok.1 hs
      cases hs1
      have hfc := finish_conc hf
      refine ⟨bot_fn (hfc E).2.2 cs, ?_⟩
      refine hR.one (m' := { fr := fr', cs, h := h }) _ (fun _ => (0, 0)) (Nat.le_refl _) ⟨(hfc E).2.1 hR.wf.1, hR.wf.2⟩ ?_
      intro E' he H e1 e2 _
      obtain ⟨r1, r2⟩ := rawOp_run ok hv H (hρ E' he)
      refine ⟨w, ?_, H, Kept.refl K w⟩
      rw [a.value (.inr r2) csC r1 (.inl rfl), ← e1, ← e2, (hfc E').1]
    · split at hs
      · rename_i outs hc
        obtain ⟨ms, hms, hs2⟩ := R.bind_ok.1 hs
        cases hs2
        unfold conAt at hc
        split at hc
        · rename_i c hop
          split at hc
          · rename_i f hf
            split at hc
            · rename_i g first captured hg
              split at hc
              · rename_i args fn hargs hfn
                split at hc
                · rename_i body hb
                  have hP := ok.fns g fn hfn
                  have hn : fn.name ≠ "runtime.NumGoroutine" := by simpa using ok.nng g fn hfn
                  have hrun : ∀ a, (callFunc g a).run P w = .ok (.enter g a) w := by
                    intro a
                    simp [callFunc, hP, hn, hb]
                  have hres : ∀ E', Agree D E E' → Deferred.ofValue (frC.eval f) (c.args.map frC.eval) = pure (concD E' { target := .fn (.func g) captured, args := first ++ args }) := by
                    intro E' he
                    have hd : resolveV (.fn (.func g) first captured) args = .ok { target := .fn (.func g) captured, args := first ++ args } := rfl
                    rw [← resolve_conc hd E', hρ E' he _ _ hg, ← evs_run (hρ E' he) _ _ hargs]
                    congr 1
                    simp [← Array.toList_inj]
                  have hrob := concD_robust hres
                  have hctx := ctx_apply (csC := csC) (w := w) (P := P) a (.inr (by rw [hop]; intro c' e; cases e)) (dC := concD E { target := .fn (.func g) captured, args := first ++ args })
                    (by simp [execOp, hop, resolve, hf, hres E (Agree.refl _ _)])
                  have hinv : ∀ E', Agree D E E' → invoke (concD E { target := .fn (.func g) captured, args := first ++ args }).target (concD E { target := .fn (.func g) captured, args := first ++ args }).args = callFunc g (concL E' (first ++ args ++ captured)).toArray := by
                    intro E' he
                    rw [← hrob E' he]
                    simp only [concD, concT, invoke, concL_append]
                    simp
                  have hstep : ∀ E', Agree D E E' → Go.step P (lone frC csC w) = .next (lone (Frame.enter P g (concL E' (first ++ args ++ captured)).toArray .normal) (frC :: csC) w) := fun E' he =>
                    hctx.enter _ _ _ (by rw [hinv E' he, hrun])
                  have hargsC : ∀ E', Agree D E E' → (concL E' (first ++ args ++ captured)).toArray = (concL E (first ++ args ++ captured)).toArray := by
                    intro E' he
                    have h3 := hinv E (Agree.refl _ _)
                    rw [hinv E' he] at h3
                    have h4 := hrun (concL E' (first ++ args ++ captured)).toArray
                    rw [h3, hrun] at h4
                    simpa using h4.symm
                  have hmade : (g, first ++ args ++ captured) ∈ madeAt { fr := fr, cs := cs, h := h } := by
                    simp only [madeAt, ht, ho, callAt, hop, hf, hg, hargs, List.mem_singleton]
                  obtain ⟨v, h', hmem, he⟩ := hcon _ rfl _ hmade fn body h outs hfn hb hc D E w _ hI (fun E' he => ⟨(hR.all E' he).1, hargsC E' he⟩) hR.dom (frC :: csC)
                  obtain ⟨fr', w', v', E', D', s1, s2, s3, s4, s5, s6, s7, s8, s9, s10⟩ := he
                  obtain ⟨y, hy, hg⟩ := mapM_mem hms _ hmem
                  obtain ⟨fr1, hfin, hg1⟩ := R.bind_ok.1 hg
                  cases hg1
                  have hfc := finish_conc hfin
                  refine ⟨_, hy, bot_fn (hfc E).2.2 cs, frC.finish v', csC, w', E', D', ?_, ⟨?_, s7, ?_⟩, s5, s6, s8, s9, s10⟩
                  · exact (Steps.head (hstep E (Agree.refl _ _)) s1).trans (.one (step_leave_returned s3))
                  · intro E'' he'
                    obtain ⟨g1, g2⟩ := s4 E'' he'
                    obtain ⟨k1, k2, k3⟩ := hR.all E'' (s5.trans he' s6)
                    refine ⟨g1, ?_, k3⟩
                    rw [← (hfc E'').1, ← g2, ← k2]
                  · exact ⟨(hfc E).2.1 hR.wf.1, hR.wf.2⟩
                · cases hc
              · cases hc
            · cases hc
          · cases hc
        · cases hc
      · exact hold hs
  · exact hold hs

include ok hsub hext hdraw in
theorem step2_sound3 {m : AM} {out : AOut} (hcon : ∀ l, out = .alts l → ∀ x ∈ madeAt m, ConAt P tab con I K x) (hI : I w) (hs : step2 tab con sub m = .ok out) (hR : Rel D E K m base frC csC w) :
    Out P m.h.next (lone frC csC w) D E K (bot m.fr m.cs) base w out := by
  have hold := fun (h : step tab sub m = .ok out) => step_sound ok hsub hext hdraw h hR
  unfold step2 at hs
  split at hs
  · rename_i hm
    split at hs
    · cases hb : isRawB m.fr.tmps _
      · rw [hb] at hs; exact hold hs
      · rw [hb] at hs
        cases hs
        exact fork_sound hR hb
    · rename_i ops i rest k ht
      split at hs
      · rename_i o ho
        split at hs
        · cases hb : isRawB m.fr.tmps _
          · rw [hb] at hs
            exact opStep_sound3 ok hsub hext hdraw hcon hI hm ht ho hs hR
          · rw [hb] at hs
            cases hs
            exact fork_sound hR hb
        · exact opStep_sound3 ok hsub hext hdraw hcon hI hm ht ho hs hR
      · exact hold hs
    · exact hold hs
  · exact hold hs
end


section
variable {P : Program} {tab : Tab} (ok : TabOK P tab) (hext : ExtOK P tab) (hdraw : ∀ sub, SubOK P tab sub → DrawOK P tab sub)
variable {con : FuncId → List AV → AH → Option (List (AV × AH))} {I : World → Prop} {K : Nat → Prop}
include ok hext hdraw in
theorem run3_sound (hIK : ∀ w w', I w → Kept K w w' → I w') : ∀ n, (∀ m outs, run3 tab con n m = .ok outs → (∀ x ∈ outs.2, ConAt P tab con I K x) → RunOK2 P I K m outs.1) ∧
    (∀ l outs, runs3 tab con n l = .ok outs → (∀ x ∈ outs.2, ConAt P tab con I K x) → ∀ m ∈ l, ∀ outs', (∀ x ∈ outs.1, x ∈ outs') → RunOK2 P I K m outs') := by
  intro n
  induction n with
  | zero =>
    refine ⟨fun m outs h => ?_, fun l outs h => ?_⟩
    · simp only [run3] at h; cases h
    · cases l <;> (simp only [runs3] at h; cases h)
  | succ n ih =>
    refine ⟨fun m outs h hcon => ?_, fun l outs h hcon => ?_⟩
    · simp only [run3] at h
      have hsub := sub_ok ok hext hdraw n
      intro D E base frC csC w hI hR
      generalize (fun f args h => match tab.fns.get f with
        | some fn => match fn.body with
          | some body => run tab n { fr := AFrame.enter fn f body args .normal, cs := [], h }
          | none => R.no "run: body"
        | none => R.no "run: function" : FuncId → List AV → AH → R (List (AV × AH))) = sub at h hsub
      cases hs : step2 tab con sub m with
      | no w => rw [hs] at h; cases h
      | ok out =>
        rw [hs] at h
        have hmade : ∀ l, out = .alts l → ∀ x ∈ madeAt m, ConAt P tab con I K x := by
          intro l hl x hx
          subst hl
          simp only at h
          split at h
          · cases h
            exact hcon x (List.mem_append_left _ hx)
          · cases h
        have ho := step2_sound3 ok hsub hext (hdraw sub hsub) hmade hI hs hR
        cases out with
        | done v hh =>
          cases h
          exact ⟨v, hh, List.mem_cons_self, ho⟩
        | next m' =>
          obtain ⟨hb, fr', cs', w', E', D', s1, s2, s3, s4, s5, s6, s7⟩ := ho
          obtain ⟨v, h', hm, he⟩ := ih.1 m' outs h hcon D' E' base fr' cs' w' (hIK _ _ hI s5) s2
          rw [hb] at he
          exact ⟨v, h', hm, Ends.trans s1 s3 s4 s5 s6 s7 he⟩
        | alts l =>
          simp only at h
          split at h
          · rename_i r hr
            cases h
            obtain ⟨m', hml, hb, fr', cs', w', E', D', s1, s2, s3, s4, s5, s6, s7⟩ := ho
            obtain ⟨v, h', hm, he⟩ := ih.2 l r hr (fun x hx => hcon x (List.mem_append_right _ hx)) m' hml r.1 (fun _ hx => hx) D' E' base fr' cs' w' (hIK _ _ hI s5) s2
            rw [hb] at he
            exact ⟨v, h', hm, Ends.trans s1 s3 s4 s5 s6 s7 he⟩
          · cases h
    · intro m hm outs' hsub'
      cases l with
      | nil => cases hm
      | cons x l =>
        simp only [runs3] at h
        obtain ⟨a, ha, h1⟩ := R.bind_ok.1 h
        obtain ⟨b, hb, h2⟩ := R.bind_ok.1 h1
        cases h2
        rcases List.mem_cons.1 hm with rfl | hm
        · intro D E base frC csC w hI hR
          obtain ⟨v, h', hx, he⟩ := ih.1 m a ha (fun x hx => hcon x (List.mem_append_left _ hx)) D E base frC csC w hI hR
          exact ⟨v, h', hsub' _ (List.mem_append_left _ hx), he⟩
        · exact ih.2 l b hb (fun x hx => hcon x (List.mem_append_right _ hx)) m hm outs' (fun x hx => hsub' x (List.mem_append_right _ hx))
end

def allTrue3 : R (List (AV × AH) × List (FuncId × List AV)) → Bool
  | .ok r => r.1.all fun x => match x.1 with | .bool b => b | _ => false
  | .no _ => false
def made3 : R (List (AV × AH) × List (FuncId × List AV)) → List (FuncId × List AV)
  | .ok r => r.2
  | .no _ => []
theorem allTrue3_ok {r : R (List (AV × AH) × List (FuncId × List AV))} (h : allTrue3 r = true) : ∃ o, r = .ok o ∧ ∀ v h', (v, h') ∈ o.1 → v = .bool true := by
  cases r with
  | no w => cases h
  | ok l =>
    refine ⟨l, rfl, fun v h' hm => ?_⟩
    have := List.all_eq_true.1 h (v, h') hm
    simp only at this
    split at this
    · rw [this]
    · cases this

/-- What a run from the empty heap says, where all ends are true: of a law; the calls that it made and that are promised. -/
theorem law_of_run3 {P : Program} {tab : Tab} (ok : TabOK P tab) (het : ExtTab P tab) (hmix : P.follows .mixedOrders = true) {con : FuncId → List AV → AH → Option (List (AV × AH))} {w : World}
    {n : Nat} {f : FuncId} {fn : Func} {body : Code} {args : List AV} {argsC : Array Value} (hfn : tab.fns.get f = some fn) (hb : fn.body = some body)
    (hr : allTrue3 (run3 tab con n { fr := AFrame.enter fn f body args .normal, cs := [], h := emptyH }) = true) (hargs : ∀ E, (concL E args).toArray = argsC)
    {made : List (FuncId × List AV)} (hmade : made3 (run3 tab con n { fr := AFrame.enter fn f body args .normal, cs := [], h := emptyH }) = made)
    (hcon : ∀ x ∈ made, ConAt P tab con (Below w.heap.size w) (fun b => b < w.heap.size) x) :
    Calls P f argsC w (fun e w' => e = .returned (.bool true) ∧ Below w.heap.size w w') := by
  obtain ⟨outs, ho, ht⟩ := allTrue3_ok hr
  rw [ho] at hmade
  subst hmade
  have hext := ext_ok ok het
  intro cs
  have hP := ok.fns f fn hfn
  let E : Env := ⟨fun _ => 0, fun _ => 0⟩
  let D : Nat → Prop := fun _ => False
  have hR : Rel D E (fun b => b < w.heap.size) { fr := AFrame.enter fn f body args .normal, cs := [], h := emptyH } cs (Frame.enter P f argsC .normal) cs w := by
    refine ⟨fun E' _ => ⟨empty_ok E' _ w (fun b h => h), ?_, rfl⟩, fun i h => h.elim, enter_wf _ _ _ _ _, fun f hf => by cases hf⟩
    rw [← hargs E', enter_conc hP hb]
  obtain ⟨v, h', hm, fr', w', v', E', D', s1, s2, s3, s4, s5, s6, s7, s8, s9, s10⟩ := (run3_sound ok hext (fun sub hsub => draw_sound ok hsub hext hmix)
    (fun a b ha hk => ha.trans ⟨hk.os, hk.tape, hk.output, hk.size, hk.block⟩) n).1 _ _ ho hcon D E cs _ cs w (Below.refl _ _) hR
  obtain ⟨_, g2⟩ := s4 E' (Agree.refl _ _)
  have := ht v h' hm
  subst this
  subst g2
  exact ⟨.returned (.bool true), w', fr', ⟨rfl, s8.os, s8.tape, s8.output, s8.size, s8.block⟩, s1, s2, s3⟩

/-- A promise, out of a contract that answers one of some values that are known, and makes blocks at most. -/
theorem ConAt.of {P : Program} {tab : Tab} {con : FuncId → List AV → AH → Option (List (AV × AH))} {w0 : World} {x : FuncId × List AV} {argsC : Array Value} {vs : List AV}
    (hargs : ∀ E, (concL E x.2).toArray = argsC) (hout : ∀ h outs, con x.1 x.2 h = some outs → ∀ v ∈ vs, (v, h) ∈ outs) (hvs : ∀ v ∈ vs, ∀ E E', conc E v = conc E' v)
    (hc : ∀ w, Below w0.heap.size w0 w → Calls P x.1 argsC w (fun e w' => (∃ v ∈ vs, e = .returned (conc ⟨fun _ => 0, fun _ => 0⟩ v)) ∧ Below w.heap.size w w')) :
    ConAt P tab con (Below w0.heap.size w0) (fun b => b < w0.heap.size) x := by
  intro fn body h outs _ _ hco D E w aC hI ha hdom cs
  have e1 := (ha E (Agree.refl _ _)).2
  rw [hargs] at e1
  subst e1
  obtain ⟨e, w', fr, ⟨⟨v, hv, rfl⟩, hb⟩, s1, s2, s3⟩ := hc w hI cs
  refine ⟨v, h, hout h outs hco v hv, fr, w', _, E, D, s1, s2, s3, fun E'' he => ⟨?_, hvs v hv _ _⟩, Agree.refl _ _, fun i hi => hi, hdom, ?_, Nat.le_refl _, fun i hi => .inl hi⟩
  · have H := (ha E'' he).1
    refine ⟨fun i o hi => ?_, H.nk, H.inj, H.dom, fun b hb' => Nat.lt_of_lt_of_le (H.kb b hb') hb.size⟩
    obtain ⟨c, h1, h2⟩ := H.obj i o hi
    exact ⟨c, by rw [hb.block _ (Array.getElem?_eq_some_iff.1 h1).1]; exact h1, h2⟩
  · exact ⟨hb.os, hb.tape, hb.output, hb.size, fun b hb' => hb.block b (Nat.lt_of_lt_of_le hb' hI.size)⟩
end Go.Am
