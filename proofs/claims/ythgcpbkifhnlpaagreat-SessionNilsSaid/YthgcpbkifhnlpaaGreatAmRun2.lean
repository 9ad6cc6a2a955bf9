/- An evaluator over abstract values, proved sound over the model's machine; no condition. Part: Run2. -/
import Derived.Test.YthgcpbkifhnlpaaGreatAmSeat
import Derived.Test.YthgcpbkifhnlpaaGreatAmRun
set_option linter.unusedSimpArgs false
set_option linter.unusedVariables false
set_option linter.unusedSectionVars false
set_option linter.deprecated false
namespace Go.Am
open Go.RowKit

/-! Numbers that are not known: 'raw'. -/
def unraw : AV → AV
  | .raw (.bool b) => .bool b
  | .raw (.int k n) => .int k n
  | v => v
def toRaw : AV → AV
  | .bool b => .raw (.bool b)
  | .int k n => .raw (.int k n)
  | v => v
def isRaw : AV → Bool
  | .raw _ => true
  | _ => false
theorem conc_unraw (E : Env) (v : AV) : conc E (unraw v) = conc E v := by
  unfold unraw; split <;> simp [conc]
theorem conc_toRaw (E : Env) (v : AV) : conc E (toRaw v) = conc E v := by
  unfold toRaw; split <;> simp [conc]

section
variable (tab : Tab)
def rawLen (t : TypeDesc) (x : AV) : Option AV :=
  match t, x with
  | .slice _, .raw (.slice _ n _) => some (.raw (.int .i64 (.ofNat n)))
  | .string, .raw (.string s) => some (.raw (.int .i64 (.ofNat s.size)))
  | _, _ => none
def rawOp (ts : T AV) (h : AH) (o : Oper) : Option AV :=
  match o.op with
  | .binOp op t x y _ =>
    match ev ts x, ev ts y with
    | .ok a, .ok b => bif isRaw a || isRaw b then (match binOp tab h op t (unraw a) (unraw b) with | .ok v => some (toRaw v) | .no _ => none) else none
    | _, _ => none
  | .unOp op _ x =>
    match ev ts x with
    | .ok a => bif isRaw a then (match unOp op (unraw a) with | .ok v => some (toRaw v) | .no _ => none) else none
    | _ => none
  | .call c =>
    match c.callee with
    | .builtin .len =>
      match c.args.toList with
      | [x] =>
        match ev ts x, c.argTypes[0]? with
        | .ok a, some t => bif isRaw a then (match und tab t with | .ok d => rawLen d a | .no _ => none) else none
        | _, _ => none
      | _ => none
    | _ => none
  | _ => none

def guardOf (ops : Array Oper) (o : Oper) : Option Tmp :=
  match o.guard with
  | some (j, _) => (ops[j]?).bind (·.dst)
  | none => none
def conAt (con : FuncId → List AV → AH → Option (List (AV × AH))) (ts : T AV) (h : AH) (o : Oper) : Option (List (AV × AH)) :=
  match o.op with
  | .call c =>
    match c.callee with
    | .value f =>
      match ev ts f with
      | .ok (.fn (.func g) first captured) =>
        match evs ts c.args.toList, tab.fns.get g with
        | .ok args, some fn =>
          match fn.body with
          | some _ => con g (first ++ args ++ captured) h
          | none => none
        | _, _ => none
      | _ => none
    | _ => none
  | _ => none
def isRawB (ts : T AV) (t : Tmp) : Bool :=
  match ts.get t with
  | some (.raw (.bool _)) => true
  | _ => false
def forkAt (m : AM) (t : Tmp) : List AM :=
  [{ m with fr := { m.fr with tmps := m.fr.tmps.set t (some (.bool true)) } }, { m with fr := { m.fr with tmps := m.fr.tmps.set t (some (.bool false)) } }]
def opStep (con : FuncId → List AV → AH → Option (List (AV × AH))) (sub : FuncId → List AV → AH → R (List (AV × AH))) (m : AM) (o : Oper) : R AOut :=
  match wanted' o m with
  | true =>
    match rawOp tab m.fr.tmps m.h o with
    | some v => do .ok (.next { m with fr := ← m.fr.finish v })
    | none =>
      match conAt tab con m.fr.tmps m.h o with
      | some outs => do
        let ms ← outs.mapM fun (v, h') => do R.ok { fr := ← m.fr.finish v, cs := m.cs, h := h' : AM }
        .ok (.alts ms)
      | none => step tab sub m
  | false => step tab sub m
where
  wanted' (o : Oper) (m : AM) : Bool :=
    match m.fr.todo with
    | .inRegion ops _ :: _ => match wanted ops o m.fr.tmps with | .ok b => b | .no _ => false
    | _ => false
def step2 (con : FuncId → List AV → AH → Option (List (AV × AH))) (sub : FuncId → List AV → AH → R (List (AV × AH))) (m : AM) : R AOut :=
  match m.fr.mode with
  | .run =>
    match m.fr.todo with
    | .code (.cond (.tmp t) _ _) :: _ => bif isRawB m.fr.tmps t then .ok (.alts (forkAt m t)) else step tab sub m
    | .inRegion ops (i :: _) :: _ =>
      match ops[i]? with
      | some o =>
        match guardOf ops o with
        | some t => bif isRawB m.fr.tmps t then .ok (.alts (forkAt m t)) else opStep tab con sub m o
        | none => opStep tab con sub m o
      | none => step tab sub m
    | _ => step tab sub m
  | _ => step tab sub m
end

mutual
def runs2 (tab : Tab) (con : FuncId → List AV → AH → Option (List (AV × AH))) : Nat → List AM → R (List (AV × AH))
  | 0, _ => .no "fuel"
  | _ + 1, [] => .ok []
  | n + 1, m :: l => do
    let a ← run2 tab con n m
    let b ← runs2 tab con n l
    .ok (a ++ b)
def run2 (tab : Tab) (con : FuncId → List AV → AH → Option (List (AV × AH))) : Nat → AM → R (List (AV × AH))
  | 0, _ => .no "fuel"
  | n + 1, m =>
    match step2 tab con (fun f args h => match tab.fns.get f with
        | some fn => match fn.body with
          | some body => run tab n { fr := AFrame.enter fn f body args .normal, cs := [], h }
          | none => .no "run: body"
        | none => .no "run: function") m with
    | .no w => .no w
    | .ok (.done v h) => .ok [(v, h)]
    | .ok (.next m') => run2 tab con n m'
    | .ok (.alts l) => runs2 tab con n l
end

/-- What is promised of the calls that are not walked. -/
def ConOK (P : Program) (tab : Tab) (con : FuncId → List AV → AH → Option (List (AV × AH))) (I : World → Prop) (K : Nat → Prop) : Prop :=
  ∀ f fn body args h outs, tab.fns.get f = some fn → fn.body = some body → con f args h = some outs → ∀ (D : Nat → Prop) (E : Env) (w : World) (argsC : Array Value), I w →
    (∀ E', Agree D E E' → HOK E' h K w ∧ (concL E' args).toArray = argsC) → (∀ i, D i → i < h.next) → ∀ cs, ∃ v h', (v, h') ∈ outs ∧ Ends P h.next (lone (Frame.enter P f argsC .normal) cs w) D E K v h' cs f w

section
variable {P : Program} {tab : Tab} (ok : TabOK P tab) {sub : FuncId → List AV → AH → R (List (AV × AH))} (hsub : SubOK P tab sub) (hext : ExtOK P tab) (hdraw : DrawOK P tab sub)
variable {con : FuncId → List AV → AH → Option (List (AV × AH))} {I : World → Prop}
variable {D : Nat → Prop} {E : Env} {K : Nat → Prop} {base : List Frame} {frC : Frame} {csC : List Frame} {w : World}

theorem forkT_conc {ts : T AV} {t : Tmp} {b : Bool} (h : ts.get t = some (.raw (.bool b))) (E : Env) (nt : Nat) : concTmps E (ts.set t (some (.bool b))) nt = concTmps E ts nt := by
  apply Array.ext_getElem?
  intro j
  rw [tmps_get?, tmps_get?, T.get_set]
  by_cases hj : j = t
  · subst hj
    simp [h, conc]
  · simp [hj]

theorem fork_sound {m : AM} {t : Tmp} (hR : Rel D E K m base frC csC w) (hb : isRawB m.fr.tmps t = true) : Out P m.h.next (lone frC csC w) D E K (bot m.fr m.cs) base w (.alts (forkAt m t)) := by
  unfold isRawB at hb
  split at hb
  · rename_i b hg
    have hwf : t < m.fr.nt := by
      apply Decidable.byContradiction
      intro hn
      have := hR.wf.1 t (Nat.le_of_not_lt hn)
      rw [this] at hg
      cases hg
    refine ⟨{ m with fr := { m.fr with tmps := m.fr.tmps.set t (some (.bool b)) } }, ?_, bot_fn (by rfl) _, ?_⟩
    · unfold forkAt
      cases b <;> simp
    · refine ⟨frC, csC, w, E, D, Steps.refl P _, ⟨fun E' he => ?_, hR.dom, ?_, hR.wf.2⟩, Agree.refl _ _, fun i hi => hi, Kept.refl K w, Nat.le_refl _, fun i hi => .inl hi⟩
      · obtain ⟨h1, h2, h3⟩ := hR.all E' he
        refine ⟨h1, ?_, h3⟩
        rw [← h2]
        simp only [concF, forkT_conc hg]
      · intro j hj
        have hj : m.fr.nt ≤ j := hj
        show (m.fr.tmps.set t (some (.bool b))).get j = none
        have hne : j ≠ t := fun e => absurd hj (by rw [e]; exact Nat.not_le.2 hwf)
        rw [T.get_set, if_neg hne]
        exact hR.wf.1 j hj
  · cases hb

include ok in
theorem rawOp_run {ts : T AV} {h : AH} {o : Oper} {v : AV} (hr : rawOp tab ts h o = some v) {E : Env} (H : HOK E h K w) {ρ : Operand → Value} (hρ : ∀ x u, ev ts x = .ok u → ρ x = conc E u) :
    (execOp ρ o).run P w = .ok (.value (conc E v)) w ∧ ∀ c, o.op ≠ .defer c := by
  unfold rawOp at hr
  split at hr
  · rename_i op t x y yt hop
    refine ⟨?_, by rw [hop]; intro c e; cases e⟩
    split at hr
    · rename_i a b ha hb
      cases hc : (isRaw a || isRaw b)
      · rw [hc] at hr; cases hr
      · rw [hc] at hr
        simp only [cond_true] at hr
        split at hr
        · rename_i u hu
          cases hr
          refine ofV (s := do eqGuard op t x y (ρ x) (ρ y); Go.binOp op t (ρ x) (ρ y)) (by simp [execOp, hop]) ?_
          rw [hρ _ _ ha, hρ _ _ hb, ← conc_unraw E a, ← conc_unraw E b, conc_toRaw]
          exact binOp_run ok H hu x y
        · cases hr
    · cases hr
  · rename_i op t x hop
    refine ⟨?_, by rw [hop]; intro c e; cases e⟩
    split at hr
    · rename_i a ha
      cases hc : isRaw a
      · rw [hc] at hr; cases hr
      · rw [hc] at hr
        simp only [cond_true] at hr
        split at hr
        · rename_i u hu
          cases hr
          refine ofV (s := Op.unary op (ρ x)) (by simp [execOp, hop]) ?_
          rw [hρ _ _ ha, ← conc_unraw E a, conc_toRaw]
          exact unOp_run hu
        · cases hr
    · cases hr
  · rename_i c hop
    refine ⟨?_, by rw [hop]; intro c e; cases e⟩
    split at hr
    · rename_i hcal
      split at hr
      · rename_i x hargs
        split at hr
        · rename_i a t ha ht
          cases hc : isRaw a
          · rw [hc] at hr; cases hr
          · rw [hc] at hr
            simp only [cond_true] at hr
            split at hr
            · rename_i d hd
              have hP := ok.und t d (R.of_ok.1 hd)
              have hx : c.args = #[x] := by rw [← Array.toList_inj]; exact hargs
              unfold rawLen at hr
              split at hr
              · cases hr
                simp [execOp, hop, resolve, hcal, hx, invoke, Go.builtin, Builtin.len_, ht, underlying, hP, hρ _ _ ha, conc, Go.goInt]
              · cases hr
                simp [execOp, hop, resolve, hcal, hx, invoke, Go.builtin, Builtin.len_, ht, underlying, hP, hρ _ _ ha, conc, Go.goInt]
              · cases hr
            · cases hr
        · cases hr
      · cases hr
    · cases hr
  · cases hr

include ok hsub hext hdraw in
theorem opStep_sound (hcon : ConOK P tab con I K) {m : AM} {out : AOut} {ops : Array Oper} {i : Nat} {rest : List Nat} {k : List AItem} {o : Oper} (hI : I w) (hm : m.fr.mode = .run) (ht : m.fr.todo = .inRegion ops (i :: rest) :: k) (ho : ops[i]? = some o)
    (hs : opStep tab con sub m o = .ok out) (hR : Rel D E K m base frC csC w) : Out P m.h.next (lone frC csC w) D E K (bot m.fr m.cs) base w out := by
  have hold := fun (h : step tab sub m = .ok out) => step_sound ok hsub hext hdraw h hR
  unfold opStep at hs
  split at hs
  · rename_i hw
    unfold opStep.wanted' at hw
    rw [ht] at hw
    simp only at hw
    have hw' : wanted ops o m.fr.tmps = .ok true := by
      split at hw
      · rename_i b hb; subst hw; exact hb
      · cases hw
    obtain ⟨fr, cs, h⟩ := m
    simp only at hs hm ht hw' hold ⊢
    have a := atOp hR hm ht ho hw'
    have hρ : ∀ E', Agree D E E' → ∀ x u, ev fr.tmps x = .ok u → frC.eval x = conc E' u := by
      intro E' he x u hx
      rw [← (hR.all E' he).2.1]
      exact ev_conc hR.wf.1 E' hx
    split at hs
    · rename_i v hv
      obtain ⟨fr', hf, hs1⟩ := R.bind_ok.1 hs
      cases hs1
      have hfc := finish_conc hf
      refine ⟨bot_fn (hfc E).2.2 cs, ?_⟩
      refine hR.one (m' := { fr := fr', cs, h := h }) _ (fun _ => (0, 0)) (Nat.le_refl _) ⟨(hfc E).2.1 hR.wf.1, hR.wf.2⟩ ?_
      intro E' he H e1 e2 _
      obtain ⟨r1, r2⟩ := rawOp_run ok hv H (hρ E' he)
      refine ⟨w, ?_, H, Kept.refl K w⟩
      rw [a.value (.inr r2) csC r1 (.inl rfl), ← e1, ← e2, (hfc E').1]
    · split at hs
      · rename_i outs hc
        obtain ⟨ms, hms, hs2⟩ := R.bind_ok.1 hs
        cases hs2
        unfold conAt at hc
        split at hc
        · rename_i c hop
          split at hc
          · rename_i f hf
            split at hc
            · rename_i g first captured hg
              split at hc
              · rename_i args fn hargs hfn
                split at hc
                · rename_i body hb
                  have hP := ok.fns g fn hfn
                  have hn : fn.name ≠ "runtime.NumGoroutine" := by simpa using ok.nng g fn hfn
                  have hrun : ∀ a, (callFunc g a).run P w = .ok (.enter g a) w := by
                    intro a
                    simp [callFunc, hP, hn, hb]
                  have hres : ∀ E', Agree D E E' → Deferred.ofValue (frC.eval f) (c.args.map frC.eval) = pure (concD E' { target := .fn (.func g) captured, args := first ++ args }) := by
                    intro E' he
                    have hd : resolveV (.fn (.func g) first captured) args = .ok { target := .fn (.func g) captured, args := first ++ args } := rfl
                    rw [← resolve_conc hd E', hρ E' he _ _ hg, ← evs_run (hρ E' he) _ _ hargs]
                    congr 1
                    simp [← Array.toList_inj]
                  have hrob := concD_robust hres
                  have hctx := ctx_apply (csC := csC) (w := w) (P := P) a (.inr (by rw [hop]; intro c' e; cases e)) (dC := concD E { target := .fn (.func g) captured, args := first ++ args })
                    (by simp [execOp, hop, resolve, hf, hres E (Agree.refl _ _)])
                  have hinv : ∀ E', Agree D E E' → invoke (concD E { target := .fn (.func g) captured, args := first ++ args }).target (concD E { target := .fn (.func g) captured, args := first ++ args }).args = callFunc g (concL E' (first ++ args ++ captured)).toArray := by
                    intro E' he
                    rw [← hrob E' he]
                    simp only [concD, concT, invoke, concL_append]
                    simp
                  have hstep : ∀ E', Agree D E E' → Go.step P (lone frC csC w) = .next (lone (Frame.enter P g (concL E' (first ++ args ++ captured)).toArray .normal) (frC :: csC) w) := fun E' he =>
                    hctx.enter _ _ _ (by rw [hinv E' he, hrun])
                  have hargsC : ∀ E', Agree D E E' → (concL E' (first ++ args ++ captured)).toArray = (concL E (first ++ args ++ captured)).toArray := by
                    intro E' he
                    have h3 := hinv E (Agree.refl _ _)
                    rw [hinv E' he] at h3
                    have h4 := hrun (concL E' (first ++ args ++ captured)).toArray
                    rw [h3, hrun] at h4
                    simpa using h4.symm
                  obtain ⟨v, h', hmem, he⟩ := hcon g fn body _ h outs hfn hb hc D E w _ hI (fun E' he => ⟨(hR.all E' he).1, hargsC E' he⟩) hR.dom (frC :: csC)
                  obtain ⟨fr', w', v', E', D', s1, s2, s3, s4, s5, s6, s7, s8, s9, s10⟩ := he
                  obtain ⟨y, hy, hg⟩ := mapM_mem hms _ hmem
                  obtain ⟨fr1, hfin, hg1⟩ := R.bind_ok.1 hg
                  cases hg1
                  have hfc := finish_conc hfin
                  refine ⟨_, hy, bot_fn (hfc E).2.2 cs, frC.finish v', csC, w', E', D', ?_, ⟨?_, s7, ?_⟩, s5, s6, s8, s9, s10⟩
                  · exact (Steps.head (hstep E (Agree.refl _ _)) s1).trans (.one (step_leave_returned s3))
                  · intro E'' he'
                    obtain ⟨g1, g2⟩ := s4 E'' he'
                    obtain ⟨k1, k2, k3⟩ := hR.all E'' (s5.trans he' s6)
                    refine ⟨g1, ?_, k3⟩
                    rw [← (hfc E'').1, ← g2, ← k2]
                  · exact ⟨(hfc E).2.1 hR.wf.1, hR.wf.2⟩
                · cases hc
              · cases hc
            · cases hc
          · cases hc
        · cases hc
      · exact hold hs
  · exact hold hs

include ok hsub hext hdraw in
theorem step2_sound (hcon : ConOK P tab con I K) {m : AM} {out : AOut} (hI : I w) (hs : step2 tab con sub m = .ok out) (hR : Rel D E K m base frC csC w) :
    Out P m.h.next (lone frC csC w) D E K (bot m.fr m.cs) base w out := by
  have hold := fun (h : step tab sub m = .ok out) => step_sound ok hsub hext hdraw h hR
  unfold step2 at hs
  split at hs
  · rename_i hm
    split at hs
    · cases hb : isRawB m.fr.tmps _
      · rw [hb] at hs; exact hold hs
      · rw [hb] at hs
        cases hs
        exact fork_sound hR hb
    · rename_i ops i rest k ht
      split at hs
      · rename_i o ho
        split at hs
        · cases hb : isRawB m.fr.tmps _
          · rw [hb] at hs
            exact opStep_sound ok hsub hext hdraw hcon hI hm ht ho hs hR
          · rw [hb] at hs
            cases hs
            exact fork_sound hR hb
        · exact opStep_sound ok hsub hext hdraw hcon hI hm ht ho hs hR
      · exact hold hs
    · exact hold hs
  · exact hold hs
end

section
variable {P : Program} {tab : Tab} (ok : TabOK P tab) (hext : ExtOK P tab) (hdraw : ∀ sub, SubOK P tab sub → DrawOK P tab sub)
variable {con : FuncId → List AV → AH → Option (List (AV × AH))} {I : World → Prop} {K : Nat → Prop}

def RunOK2 (P : Program) (I : World → Prop) (K : Nat → Prop) (m : AM) (outs : List (AV × AH)) : Prop :=
  ∀ (D : Nat → Prop) (E : Env) (base : List Frame) (frC : Frame) (csC : List Frame) (w : World), I w → Rel D E K m base frC csC w →
    ∃ v h', (v, h') ∈ outs ∧ Ends P m.h.next (lone frC csC w) D E K v h' base (bot m.fr m.cs) w

include ok hext hdraw in
theorem sub_ok (n : Nat) : SubOK P tab (fun f args h => match tab.fns.get f with
        | some fn => match fn.body with
          | some body => run tab n { fr := AFrame.enter fn f body args .normal, cs := [], h }
          | none => .no "run: body"
        | none => .no "run: function") := by
  intro f fn body args h outs hfn hb ho D E K w argsC hargs hdom cs
  simp only [hfn, hb] at ho
  have hP := ok.fns f fn hfn
  have hR : Rel D E K { fr := AFrame.enter fn f body args .normal, cs := [], h } cs (Frame.enter P f argsC .normal) cs w := by
    refine ⟨fun E' he => ?_, hdom, enter_wf _ _ _ _ _, fun f hf => by cases hf⟩
    obtain ⟨h1, h2⟩ := hargs E' he
    refine ⟨h1, ?_, rfl⟩
    rw [← h2, enter_conc hP hb]
  exact (run_sound ok hext hdraw n).1 _ _ ho D E K cs _ cs w hR

include ok hext hdraw in
theorem run2_sound (hcon : ConOK P tab con I K) (hIK : ∀ w w', I w → Kept K w w' → I w') : ∀ n, (∀ m outs, run2 tab con n m = .ok outs → RunOK2 P I K m outs) ∧
    (∀ l outs, runs2 tab con n l = .ok outs → ∀ m ∈ l, ∀ outs', (∀ x ∈ outs, x ∈ outs') → RunOK2 P I K m outs') := by
  intro n
  induction n with
  | zero =>
    refine ⟨fun m outs h => ?_, fun l outs h => ?_⟩
    · simp only [run2] at h; cases h
    · cases l <;> (simp only [runs2] at h; cases h)
  | succ n ih =>
    refine ⟨fun m outs h => ?_, fun l outs h => ?_⟩
    · simp only [run2] at h
      have hsub := sub_ok ok hext hdraw n
      intro D E base frC csC w hI hR
      generalize (fun f args h => match tab.fns.get f with
        | some fn => match fn.body with
          | some body => run tab n { fr := AFrame.enter fn f body args .normal, cs := [], h }
          | none => R.no "run: body"
        | none => R.no "run: function" : FuncId → List AV → AH → R (List (AV × AH))) = sub at h hsub
      cases hs : step2 tab con sub m with
      | no w => rw [hs] at h; cases h
      | ok out =>
        rw [hs] at h
        have ho := step2_sound ok hsub hext (hdraw sub hsub) hcon hI hs hR
        cases out with
        | done v hh =>
          cases h
          exact ⟨v, hh, List.mem_cons_self, ho⟩
        | next m' =>
          obtain ⟨hb, fr', cs', w', E', D', s1, s2, s3, s4, s5, s6, s7⟩ := ho
          obtain ⟨v, h', hm, he⟩ := ih.1 m' outs h D' E' base fr' cs' w' (hIK _ _ hI s5) s2
          rw [hb] at he
          exact ⟨v, h', hm, Ends.trans s1 s3 s4 s5 s6 s7 he⟩
        | alts l =>
          obtain ⟨m', hml, hb, fr', cs', w', E', D', s1, s2, s3, s4, s5, s6, s7⟩ := ho
          obtain ⟨v, h', hm, he⟩ := ih.2 l outs h m' hml outs (fun _ hx => hx) D' E' base fr' cs' w' (hIK _ _ hI s5) s2
          rw [hb] at he
          exact ⟨v, h', hm, Ends.trans s1 s3 s4 s5 s6 s7 he⟩
    · intro m hm outs' hsub'
      cases l with
      | nil => cases hm
      | cons x l =>
        simp only [runs2] at h
        obtain ⟨a, ha, h1⟩ := R.bind_ok.1 h
        obtain ⟨b, hb, h2⟩ := R.bind_ok.1 h1
        cases h2
        rcases List.mem_cons.1 hm with rfl | hm
        · intro D E base frC csC w hI hR
          obtain ⟨v, h', hx, he⟩ := ih.1 m a ha D E base frC csC w hI hR
          exact ⟨v, h', hsub' _ (List.mem_append_left _ hx), he⟩
        · exact ih.2 l b hb m hm outs' (fun x hx => hsub' x (List.mem_append_right _ hx))
end

/-- Is every end true? -/
def allTrue : R (List (AV × AH)) → Bool
  | .ok l => l.all fun x => match x.1 with | .bool b => b | _ => false
  | .no _ => false
theorem allTrue_ok {r : R (List (AV × AH))} (h : allTrue r = true) : ∃ outs, r = .ok outs ∧ ∀ v h', (v, h') ∈ outs → v = .bool true := by
  cases r with
  | no w => cases h
  | ok l =>
    refine ⟨l, rfl, fun v h' hm => ?_⟩
    have := List.all_eq_true.1 h (v, h') hm
    simp only at this
    split at this
    · rw [this]
    · cases this

def emptyH : AH := { t := .e, next := 0 }
theorem empty_ok (E : Env) (K : Nat → Prop) (w : World) (hK : ∀ b, K b → b < w.heap.size) : HOK E emptyH K w := by
  have h0 : ∀ i, emptyH.get i = none := fun i => rfl
  refine ⟨fun i o h => ?_, fun i o h => ?_, fun i j oi oj h => ?_, fun i o h => ?_, hK⟩ <;> (rw [h0] at h; cases h)

/-- What a run from the empty heap says, where all ends are true: of a law. -/
theorem law_of_run2 {P : Program} {tab : Tab} (ok : TabOK P tab) (het : ExtTab P tab) (hmix : P.follows .mixedOrders = true) {con : FuncId → List AV → AH → Option (List (AV × AH))} {w : World}
    (hcon : ConOK P tab con (Below w.heap.size w) (fun b => b < w.heap.size)) {n : Nat} {f : FuncId} {fn : Func} {body : Code} {args : List AV} {argsC : Array Value} (hfn : tab.fns.get f = some fn) (hb : fn.body = some body)
    (hr : allTrue (run2 tab con n { fr := AFrame.enter fn f body args .normal, cs := [], h := emptyH }) = true) (hargs : ∀ E, (concL E args).toArray = argsC) :
    Calls P f argsC w (fun e w' => e = .returned (.bool true) ∧ Below w.heap.size w w') := by
  obtain ⟨outs, ho, ht⟩ := allTrue_ok hr
  have hext := ext_ok ok het
  intro cs
  have hP := ok.fns f fn hfn
  let E : Env := ⟨fun _ => 0, fun _ => 0⟩
  let D : Nat → Prop := fun _ => False
  have hR : Rel D E (fun b => b < w.heap.size) { fr := AFrame.enter fn f body args .normal, cs := [], h := emptyH } cs (Frame.enter P f argsC .normal) cs w := by
    refine ⟨fun E' _ => ⟨empty_ok E' _ w (fun b h => h), ?_, rfl⟩, fun i h => h.elim, enter_wf _ _ _ _ _, fun f hf => by cases hf⟩
    rw [← hargs E', enter_conc hP hb]
  obtain ⟨v, h', hm, fr', w', v', E', D', s1, s2, s3, s4, s5, s6, s7, s8, s9, s10⟩ := (run2_sound ok hext (fun sub hsub => draw_sound ok hsub hext hmix) hcon
    (fun a b ha hk => ha.trans ⟨hk.os, hk.tape, hk.output, hk.size, hk.block⟩) n).1 _ _ ho D E cs _ cs w (Below.refl _ _) hR
  obtain ⟨_, g2⟩ := s4 E' (Agree.refl _ _)
  have := ht v h' hm
  subst this
  subst g2
  exact ⟨.returned (.bool true), w', fr', ⟨rfl, s8.os, s8.tape, s8.output, s8.size, s8.block⟩, s1, s2, s3⟩

/-- No promise is needed. -/
def noCon : FuncId → List AV → AH → Option (List (AV × AH)) := fun _ _ _ => none
theorem noCon_ok {P : Program} {tab : Tab} {I : World → Prop} {K : Nat → Prop} : ConOK P tab noCon I K := by
  intro f fn body args h outs _ _ hc
  cases hc
end Go.Am
namespace Go.Am
def extOf : List (Nat × Nat) → T Nat
  | [] => .e
  | (f, t) :: l => (extOf l).set f (some t)
theorem extOf_mem : ∀ (l : List (Nat × Nat)) (f tag : Nat), (extOf l).get f = some tag → (f, tag) ∈ l := by
  intro l
  induction l with
  | nil => intro f tag h; simp [extOf, T.get_e] at h
  | cons x l ih =>
    intro f tag h
    obtain ⟨a, b⟩ := x
    simp only [extOf, T.get_set] at h
    split at h
    · rename_i e
      subst e
      cases h
      exact List.mem_cons_self
    · exact List.mem_cons_of_mem _ (ih f tag h)
/-- The functions without a body, by name. -/
theorem ExtTab.list {P : Program} {tab : Tab} (l : List (Nat × Nat)) (hl : tab.ext = extOf l) (hf : ∀ x ∈ l, ∃ fn, tab.fns.get x.1 = some fn ∧ Extern.findNext fn = none ∧ Extern.find fn = some (extFn x.2 fn)) : ExtTab P tab :=
  ExtTab.of l (fun f tag h => extOf_mem l f tag (by rw [← hl]; exact h)) (fun x hx fn h => by
    obtain ⟨fn', h1, h2⟩ := hf x hx
    rw [h1] at h
    cases h
    exact h2)
end Go.Am
