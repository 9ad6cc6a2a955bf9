/- An evaluator over symbolic values, proved sound over the model's machine, and its use at this seat; no condition. Part 1. -/
import Derived.Laws.Sem
import Derived.Calls
import Derived.Orders
import Derived.Laws.Externs
import Derived.Test.YtmfohfbdddlilaaGreatP0
set_option linter.unusedSimpArgs false
set_option linter.unusedVariables false
set_option linter.unusedSectionVars false
set_option linter.deprecated false
namespace Go.Am
open Go.RowKit
variable [Inhabited DrP]

theorem cut_mapNext {P : Program} (w : World) (n : Nat) (hn : 1 < n) : (choose (.mapNext n)).run P w = .ok (w.tape w.drawn (.mapNext n) % n) w.drew := by
  have : (Question.mapNext n).forced = false := by simp [Question.forced]; omega
  simp only [choose, Sem.run, this, Bool.false_eq_true, if_false, Question.cut]
  rfl
theorem cut_mapNext1 {P : Program} (w : World) (n : Nat) (hn : n ≤ 1) : (choose (.mapNext n)).run P w = .ok 0 w := by
  have : (Question.mapNext n).forced = true := by simp [Question.forced]; omega
  simp only [choose, Sem.run, this, if_true]

theorem run_setO {P : Program} {w : World} {r : Nat} {o : Obj} (h : w.heap[r]? = some o) (hn : ∀ c e f, o ≠ .cells c e f) (o' : Obj) : (setObj r o').run P w = .ok () (w.put r o') := by
  simp only [setObj, Sem.run, h]
  rfl

section
variable {P : Program} {h : AH}

theorem left_conc (E : Env) (es : List (AV × AV × Nat)) (seen : List Nat) :
    (es.map (concE E)).toArray.filter (fun e => !seen.toArray.contains e.born) = ((es.filter fun x => !(seen.any (Nat.beq x.2.2))).map (concE E)).toArray := by
  apply Array.toList_inj.1
  simp only [Array.toList_filter, List.toList_toArray, List.filter_map]
  congr 1
  apply List.filter_congr
  intro x _
  simp only [Function.comp, concE, List.contains_toArray]
  congr 1
  rw [Bool.eq_iff_iff]
  simp [List.any_eq_true]

theorem nextOp_run {it : AV} {s : Bool} {l : List (AV × AH)} (hn : nextOp h it s = .ok l) (w : World) (ty : TypeId) :
    ∃ j : Nat, ∀ E K, HOK E h K w → ∃ (v : AV) (h' : AH), l[j]? = some (v, h') ∧ h'.next = h.next ∧ ∃ w', (Instr.next (conc E it) s ty).run P w = .ok (conc E v) w' ∧ HOK E h' K w' ∧ Kept K w w' := by
  unfold nextOp at hn
  split at hn
  · rename_i r
    split at hn
    · rename_i hr
      cases hn
      refine ⟨0, fun E K H => ⟨_, _, rfl, rfl, w, ?_, H, Kept.refl K w⟩⟩
      obtain ⟨o, ho, hoo⟩ := H.obj r _ hr
      simp only [OOK] at hoo
      subst hoo
      unfold Instr.next
      simp only [conc, Sem.run_bind, run_getO ho (by simp), Result.andThen_ok, Option.map_none]
      rfl
    · rename_i str pos hr
      by_cases hlt : Nat.blt pos str.length = true
      · simp only [hlt, cond_true] at hn
        cases hn
        refine ⟨0, fun E K H => ?_⟩
        obtain ⟨o, ho, hoo⟩ := H.obj r _ hr
        simp only [OOK] at hoo
        subst hoo
        have hp : pos < (⟨str.toArray⟩ : ByteArray).size := by rw [size_mk]; simpa using hlt
        refine ⟨_, _, rfl, rfl, w.put (E.blk r) (.stringIter ⟨str.toArray⟩ (pos + (Utf8.decode ⟨str.toArray⟩ pos).2)), ?_, H.put hr (by simp [AO.ro]) (by simp [OOK]), H.kept_put hr (by simp [AO.ro]) _⟩
        unfold Instr.next
        simp only [conc, Sem.run_bind, run_getO ho (by simp), Result.andThen_ok, hp, if_true]
        rw [run_setO ho (by simp)]
        simp [conc, goInt, Go.goInt]
      · simp only [Bool.not_eq_true] at hlt
        simp only [hlt, cond_false] at hn
        cases hn
        refine ⟨0, fun E K H => ⟨_, _, rfl, rfl, w, ?_, H, Kept.refl K w⟩⟩
        obtain ⟨o, ho, hoo⟩ := H.obj r _ hr
        simp only [OOK] at hoo
        subst hoo
        have hp : ¬ pos < (⟨str.toArray⟩ : ByteArray).size := by
          intro e
          have : Nat.blt pos str.length = true := by rw [size_mk] at e; simpa using e
          rw [this] at hlt; cases hlt
        unfold Instr.next
        simp only [conc, Sem.run_bind, run_getO ho (by simp), Result.andThen_ok, hp, if_false]
        rfl
    · rename_i m since seen last hr
      obtain ⟨⟨es, c⟩, hm, hn1⟩ := R.bind_ok.1 hn
      obtain ⟨_, hck, hn2⟩ := R.bind_ok.1 hn1
      have hck := R.check_ok.1 hck
      simp only [Bool.and_eq_true, List.all_eq_true] at hck
      obtain ⟨hcs, hall⟩ := hck
      have hcs := Nat.eq_of_beq_eq_true hcs
      subst hcs
      have hgo : ∀ E K, HOK E h K w → w.heap[E.blk r]? = some (.mapIter (some (E.blk m)) c seen.toArray last) ∧ w.heap[E.blk m]? = some (.map (es.map (concE E)).toArray c) := by
        intro E K H
        obtain ⟨o, ho, hoo⟩ := H.obj r _ hr
        simp only [OOK] at hoo
        subst hoo
        exact ⟨ho, H.map (mapAt_ok hm)⟩
      have hborn : ∀ x ∈ es, x.2.2 < c ∧ x.2.2 < last := by
        intro x hx
        have := hall x hx
        simpa using this
      have hold : ∀ (E : Env) (q : List (AV × AV × Nat)), (∀ x ∈ q, x ∈ es) → ((q.map (concE E)).toArray.filter fun e => decide (e.born < c)) = (q.map (concE E)).toArray ∧ ((q.map (concE E)).toArray.filter fun e => decide (e.born ≥ c)) = #[] := by
        intro E q hq
        constructor
        · apply Array.filter_eq_self.2
          intro a ha
          obtain ⟨x, hx, rfl⟩ := List.mem_map.1 (List.mem_toArray.1 ha)
          have h1 := (hborn _ (hq _ hx)).1
          exact decide_eq_true h1
        · apply Array.filter_eq_empty_iff.2
          intro a ha
          obtain ⟨x, hx, rfl⟩ := List.mem_map.1 (List.mem_toArray.1 ha)
          have h1 := (hborn _ (hq _ hx)).1
          intro h2
          exact Nat.not_le.2 h1 (of_decide_eq_true h2)
      have hchk : ∀ E : Env, (!seen.toArray.isEmpty && !(es.map (concE E)).toArray.isEmpty && (es.map (concE E)).toArray.all (fun e => decide (e.born ≥ last))) = false := by
        intro E
        cases es with
        | nil => simp
        | cons x t =>
          have := (hborn x List.mem_cons_self).2
          have : (((x :: t).map (concE E)).toArray.all (fun e => decide (e.born ≥ last))) = false := by
            simp [concE]
            intro h1
            omega
          rw [this, Bool.and_false]
      generalize hL : (es.filter fun x => !(seen.any (Nat.beq x.2.2))) = L at hn2
      have hLm : ∀ x ∈ L, x ∈ es := by
        intro x hx
        rw [← hL] at hx
        exact (List.mem_filter.1 hx).1
      cases L with
      | nil =>
        cases hn2
        refine ⟨0, fun E K H => ⟨_, _, rfl, rfl, w, ?_, H, Kept.refl K w⟩⟩
        obtain ⟨h1, h2⟩ := hgo E K H
        obtain ⟨h3, h4⟩ := hold E [] (by simp)
        unfold Instr.next
        simp only [conc, Sem.run_bind, run_getO h1 (by simp), run_getO h2 (by simp), Result.andThen_ok, hchk E, Bool.false_eq_true, if_false, left_conc, hL, h3, h4, Sem.run_pure]
        rw [cut_mapNext1 _ _ (by simp)]
        simp [conc]
      | cons a t =>
        simp only at hn2
        cases hn2
        let L : List (AV × AV × Nat) := a :: t
        have hj : ∃ j : Nat, j < (a :: t).length ∧ ∃ w1, w1.heap = w.heap ∧ Kept ⟨fun _ => False, 0⟩ w w1 ∧ (w1 = w ∨ w1 = w.drew) ∧ (choose (.mapNext (a :: t).length)).run P w = .ok j w1 := by
          by_cases h1 : (a :: t).length ≤ 1
          · exact ⟨0, by simp, w, rfl, Kept.refl _ w, .inl rfl, cut_mapNext1 w _ h1⟩
          · exact ⟨_, Nat.mod_lt _ (by simp), w.drew, rfl, Kept.drew _ w, .inr rfl, cut_mapNext w _ (by omega)⟩
        obtain ⟨j, hlt, w1, hh, _, hw1, hrun⟩ := hj
        refine ⟨j, fun E K H => ?_⟩
        obtain ⟨h1, h2⟩ := hgo E K H
        obtain ⟨h3, h4⟩ := hold E (a :: t) hLm
        have H1 : HOK E h K w1 := by
          rcases hw1 with rfl | rfl
          · exact H
          · exact H.drew
        have k1 : Kept K w w1 := by
          rcases hw1 with rfl | rfl
          · exact Kept.refl K _
          · exact Kept.drew K w
        refine ⟨.tup [.bool true, (a :: t)[j].1, (a :: t)[j].2.1], h.set r (.miter (some m) c (seen ++ [(a :: t)[j].2.2]) c), ?_, rfl, w1.put (E.blk r) (.mapIter (some (E.blk m)) c (seen ++ [(a :: t)[j].2.2]).toArray c), ?_,
          H1.put hr (by simp [AO.ro]) (by simp [OOK]), k1.trans (H1.kept_put hr (by simp [AO.ro]) _)⟩
        · rw [List.getElem?_map, List.getElem?_eq_getElem hlt]
          rfl
        · unfold Instr.next
          simp only [conc, Sem.run_bind, run_getO h1 (by simp), run_getO h2 (by simp), Result.andThen_ok, hchk E, Bool.false_eq_true, if_false, left_conc, hL, h3, h4, Sem.run_pure]
          have hc : ((if ((a :: t).map (concE E)).toArray.isEmpty = true then #[none] else #[]) ++ ((((a :: t).map (concE E)).toArray ++ #[]).map some) : Array (Option MapEntry)) = ((a :: t).map (fun x => some (concE E x))).toArray := by
            simp
          rw [hc]
          have hsz : ((a :: t).map (fun x => some (concE E x))).toArray.size = (a :: t).length := by simp
          rw [hsz, hrun]
          have hget : ((a :: t).map (fun x => some (concE E x))).toArray[j]? = some (some (concE E (a :: t)[j])) := by
            rw [List.getElem?_toArray, List.getElem?_map, List.getElem?_eq_getElem hlt]
            rfl
          simp only [Result.andThen_ok, hget, Sem.run_bind]
          have ho1 : w1.heap[E.blk r]? = some (.mapIter (some (E.blk m)) c seen.toArray last) := by rw [hh]; exact h1
          rw [run_setO ho1 (by simp)]
          simp [concE, conc]
    · cases hn
  · cases hn
end
end Go.Am

namespace Go.Am
open Go.RowKit
variable [Inhabited DrP]

section
variable {P : Program} {tab : Tab} (ok : TabOK P tab) {sub : FuncId → List AV → AH → R (List (AV × AH))} (hsub : SubOK P tab sub) (hext : ExtOK P tab)
variable {D : Nat → Prop} {E : Env} {K : KS} {base : List Frame} {frC : Frame} {csC : List Frame} {w : World}
variable {fr : AFrame} {cs : List AFrame} {h : AH} {ops : Array Oper} {i : Nat} {rest : List Nat} {k : List AItem} {o : Oper}

structure AtOp (frC : Frame) (ops : Array Oper) (i : Nat) (rest : List Nat) (o : Oper) : Prop where
  mode : frC.mode = .run
  todo : ∃ k, frC.todo = .inRegion ops (i :: rest) :: k
  op : ops[i]? = some o
  wanted : Region.wanted o (yielded ops frC.tmps) = true

theorem atOp (hR : Rel D E K { fr, cs, h } base frC csC w) (hm : fr.mode = .run) (ht : fr.todo = .inRegion ops (i :: rest) :: k) (ho : ops[i]? = some o) (hw : wanted ops o fr.tmps = .ok true) : AtOp frC ops i rest o := by
  obtain ⟨_, e, _⟩ := hR.all E (Agree.refl _ _)
  subst e
  refine ⟨by simp [concF, hm, concM], ⟨k.map (concI E), by simp [concF, ht, concI]⟩, ho, ?_⟩
  exact wanted_conc hR.wf.1 hw E

theorem AtOp.step (a : AtOp frC ops i rest o) (hd : frC.roundOf = none ∨ ∀ c, o.op ≠ .defer c) (csC : List Frame) (w : World) :
    stepG P true { frame := frC, callers := csC, status := .running, dying := none } w = stepG.apply P true frC csC none (execOp frC.eval o) w := by
  obtain ⟨k, hk⟩ := a.todo
  exact step_op a.mode hk a.op a.wanted hd w

theorem AtOp.value (a : AtOp frC ops i rest o) (hd : frC.roundOf = none ∨ ∀ c, o.op ≠ .defer c) (csC : List Frame) {w w' : World} {r : Next} {x : Value} (hs : (execOp frC.eval o).run P w = .ok r w') (hr : Yields r x) :
    Go.step P (lone frC csC w) = .next (lone (frC.finish x) csC w') :=
  step_lone_go (by rw [a.step hd, apply_value hs hr])

theorem pureOp_nd {ts : T AV} {v : AV} {h' : AH} (hp : pureOp tab ts h o = .ok (v, h')) : ∀ c, o.op ≠ .defer c := by
  intro c e
  unfold pureOp at hp
  rw [e] at hp
  cases hp

include ok in
theorem pure_step (hR : Rel D E K { fr, cs, h } base frC csC w) (a : AtOp frC ops i rest o) {v : AV} {h' : AH} (hp : pureOp tab fr.tmps h o = .ok (v, h')) {fr' : AFrame} (hf : fr.finish v = .ok fr') :
    Out P h.next (lone frC csC w) D E K (bot fr cs) base w (.next { fr := fr', cs, h := h' }) := by
  obtain ⟨f, hgood⟩ := pureOp_sound ok hp w frC.eval
  have hfc := finish_conc hf
  have hρ : ∀ E', Agree D E E' → ∀ x u, ev fr.tmps x = .ok u → frC.eval x = conc E' u := by
    intro E' he x u hx
    rw [← (hR.all E' he).2.1]
    exact ev_conc hR.wf.1 E' hx
  obtain ⟨E1, ha1, hE1⟩ := hR.near (fun _ => f)
  have hn := (hgood E1 K (hR.all E1 ha1).1 (hρ E1 ha1) (fun _ => hE1 h.next (Nat.le_refl _))).1
  refine ⟨bot_fn (hfc E).2.2 cs, ?_⟩
  refine hR.one (m' := { fr := fr', cs, h := h' }) _ (fun _ => f) hn.1 ⟨(hfc E).2.1 hR.wf.1, hR.wf.2⟩ ?_
  intro E' he H e1 e2 hE'
  obtain ⟨_, r, w', s1, s2, s3, s4⟩ := hgood E' K H (hρ E' he) (fun hlt => hE' h.next (Nat.le_refl _) hlt)
  refine ⟨w', ?_, s3, s4⟩
  rw [a.value (.inr (pureOp_nd hp)) csC s1 s2, ← e1, ← e2, (hfc E').1]

theorem resolve_conc {u : AV} {args : List AV} {d : AD} (hd : resolveV u args = .ok d) (E : Env) : Deferred.ofValue (conc E u) (concL E args).toArray = pure (concD E d) := by
  unfold resolveV at hd
  split at hd
  · cases hd
    simp [Deferred.ofValue, conc, concD, concT]
  · cases hd
    simp [Deferred.ofValue, conc, concD, concT]
  · cases hd

theorem concD_robust {f : Value} {a : Array Value} {d : AD} (h : ∀ E', Agree D E E' → Deferred.ofValue f a = pure (concD E' d)) : ∀ E', Agree D E E' → concD E' d = concD E d := by
  intro E' he
  have h1 := h E' he
  rw [h E (Agree.refl _ _)] at h1
  have h2 : (pure (concD E d) : Sem Deferred).run default default = (pure (concD E' d) : Sem Deferred).run default default := by rw [h1]
  simpa using h2.symm

theorem ctx_apply (a : AtOp frC ops i rest o) (hd : frC.roundOf = none ∨ ∀ c, o.op ≠ .defer c) {dC : Deferred} (hx : (execOp frC.eval o).run P w = (invoke dC.target dC.args).run P w) :
    Ctx P (lone frC csC w) frC csC w .normal dC := by
  obtain ⟨k, hk⟩ := a.todo
  refine ⟨fun f x w' hr => ?_, fun l f t x b w' hr => ?_, fun v w' hr _ => ?_⟩
  · refine step_lone_go ?_
    rw [a.step hd]
    simp [stepG.apply, hx, hr, hk]
  · refine step_lone_go ?_
    rw [a.step hd]
    simp [stepG.apply, hx, hr]
  · exact a.value hd csC (by rw [hx, hr]) (.inl rfl)

theorem tryRecover_conc {r : Option (AV × List AFrame)} (hr : tryRecover fr cs = .ok r) (E : Env) (base : List Frame) :
    Go.tryRecover (concF E fr) (cs.map (concF E) ++ base) = r.map (fun x => (conc E x.1, x.2.map (concF E) ++ base)) := by
  unfold tryRecover at hr
  split at hr
  · rename_i _ c rest hk
    have hk' : (concF E fr).kind = .deferred := hk
    split at hr
    · rename_i v older hm
      cases hr
      have hm' : (concF E c).mode = .panicking ({ v := conc E v, recovered := false } :: older.map (concP E)) := by simp [concF, hm, concM, concP]
      simp only [List.map_cons, List.cons_append, Go.tryRecover, hk', hm', Option.map_some]
      rfl
    · rename_i hm
      cases hr
      simp only [List.map_cons, List.cons_append, Go.tryRecover, hk', Option.map_none]
      split
      · rename_i heq
        exfalso
        simp only [concF, concM] at heq
        split at heq
        · cases heq
        · cases heq
        · rename_i chain hch
          cases chain with
          | nil => simp at heq
          | cons p older =>
            obtain ⟨v', rc⟩ := p
            simp [concP] at heq
            obtain ⟨⟨_, h2⟩, _⟩ := heq
            subst h2
            exact hm _ _ hch
      · rfl
  · rename_i _ c rest hk
    cases hr
    have hk' : (concF E fr).kind = .normal := hk
    simp only [List.map_cons, List.cons_append]
    unfold Go.tryRecover
    simp [hk']
  · cases hr

theorem tryRecover_wf {v : AV} {cs' : List AFrame} (hr : tryRecover fr cs = .ok (some (v, cs'))) : (∀ f ∈ cs, f.WF) → (∀ f ∈ cs', f.WF) ∧ (∀ fr', fr'.fn = fr.fn → bot fr' cs' = bot fr cs) := by
  intro hwf
  unfold tryRecover at hr
  split at hr
  · rename_i _ c rest hk
    split at hr
    · cases hr
      refine ⟨fun f hf => ?_, fun fr' hf => ?_⟩
      · rcases List.mem_cons.1 hf with rfl | hf
        · exact hwf c List.mem_cons_self
        · exact hwf f (List.mem_cons_of_mem _ hf)
      · show bot _ rest = bot c rest
        exact bot_fn (by rfl) rest
    · cases hr
  · cases hr
  · cases hr

include ok hsub hext in
theorem oper_sound {out : AOut} (hop : oper tab sub fr cs h o = .ok out) (hR : Rel D E K { fr, cs, h } base frC csC w) (hm : fr.mode = .run) (ht : fr.todo = .inRegion ops (i :: rest) :: k)
    (ho : ops[i]? = some o) (hw : wanted ops o fr.tmps = .ok true) : Out P h.next (lone frC csC w) D E K (bot fr cs) base w out := by
  have a := atOp hR hm ht ho hw
  have hρ : ∀ E', Agree D E E' → ∀ x u, ev fr.tmps x = .ok u → frC.eval x = conc E' u := by
    intro E' he x u hx
    rw [← (hR.all E' he).2.1]
    exact ev_conc hR.wf.1 E' hx
  have hpure : ∀ {out : AOut}, (do let (v, h') ← pureOp tab fr.tmps h o; R.ok (AOut.next { fr := ← fr.finish v, cs, h := h' }) : R AOut) = .ok out → Out P h.next (lone frC csC w) D E K (bot fr cs) base w out := by
    intro out hp
    obtain ⟨⟨v, h'⟩, h1, hp1⟩ := R.bind_ok.1 hp
    obtain ⟨fr', h2, hp2⟩ := R.bind_ok.1 hp1
    cases hp2
    exact pure_step ok hR a h1 h2
  unfold oper at hop
  split at hop
  · rename_i c hc
    split at hop
    · -- a call of a value
      rename_i f hf
      obtain ⟨args, hargs, hop1⟩ := R.bind_ok.1 hop
      obtain ⟨u, hu, hop2⟩ := R.bind_ok.1 hop1
      obtain ⟨d, hd, hop3⟩ := R.bind_ok.1 hop2
      have hres : ∀ E', Agree D E E' → Deferred.ofValue (frC.eval f) (c.args.map frC.eval) = pure (concD E' d) := by
        intro E' he
        rw [← resolve_conc hd E', hρ E' he _ _ hu, ← evs_run (hρ E' he) _ _ hargs]
        congr 1
        simp [← Array.toList_inj]
      have hrob := concD_robust hres
      refine callTarget_sound ok hsub hext hop3 hR _ (dC := concD E d) (ctx_apply a (.inr (by rw [hc]; intro c' e; cases e)) ?_) hrob
      simp [execOp, hc, resolve, hf, hres E (Agree.refl _ _)]
    · -- recover
      rename_i hb
      split at hop
      · rename_i hround
        have hr0 : frC.roundOf = none := by
          rw [← (hR.all E (Agree.refl _ _)).2.1]
          simp [concF, hround]
        obtain ⟨r, hr, hop1⟩ := R.bind_ok.1 hop
        have hnd : frC.roundOf = none ∨ ∀ c, o.op ≠ .defer c := .inl hr0
        have hrun : (execOp frC.eval o).run P w = .ok .recover w := by
          simp [execOp, hc, resolve, hb, invoke, Go.builtin]
        have hstep : ∀ E', Agree D E E' → (stepG P true { frame := frC, callers := csC, status := .running, dying := none } w).bare =
            (match r.map (fun x => (conc E' x.1, x.2.map (concF E') ++ base)) with
              | some (v, callers) => .go { frame := frC.finish v, callers, status := .running, dying := none } w
              | none => .go { frame := frC.finish .nilIface, callers := csC, status := .running, dying := none } w) := by
          intro E' he
          obtain ⟨_, e1, e2⟩ := hR.all E' he
          rw [← tryRecover_conc hr E' base, e1, e2, a.step hnd]
          simp only [stepG.apply, hrun, hr0, Sem.runT_eq, if_true]
          cases Go.tryRecover frC csC <;> simp
        split at hop1
        · rename_i v cs' 
          obtain ⟨fr', hf, hop2⟩ := R.bind_ok.1 hop1
          cases hop2
          have hfc := finish_conc hf
          obtain ⟨g1, g2⟩ := tryRecover_wf hr hR.wf.2
          refine ⟨g2 _ (hfc E).2.2, ?_⟩
          refine hR.one (m' := { fr := fr', cs := cs', h }) _ (fun _ => (0, 0)) (Nat.le_refl _) ⟨(hfc E).2.1 hR.wf.1, g1⟩ ?_
          intro E' he H e1 e2 _
          refine ⟨w, step_lone_go ?_, H, Kept.refl K w⟩
          rw [hstep E' he, ← (hfc E').1, e1]
          rfl
        · obtain ⟨fr', hf, hop2⟩ := R.bind_ok.1 hop1
          cases hop2
          have hfc := finish_conc hf
          refine ⟨bot_fn (hfc E).2.2 cs, ?_⟩
          refine hR.one (m' := { fr := fr', cs, h }) _ (fun _ => (0, 0)) (Nat.le_refl _) ⟨(hfc E).2.1 hR.wf.1, hR.wf.2⟩ ?_
          intro E' he H e1 e2 _
          refine ⟨w, step_lone_go ?_, H, Kept.refl K w⟩
          rw [hstep E' he, ← (hfc E').1, e1, e2]
          rfl
      · cases hop
    · exact hpure hop
  · -- defer
    rename_i c hc
    split at hop
    · rename_i f hf hround
      have hr0 : frC.roundOf = none := by
        rw [← (hR.all E (Agree.refl _ _)).2.1]
        simp [concF, hround]
      obtain ⟨args, hargs, hop1⟩ := R.bind_ok.1 hop
      obtain ⟨u, hu, hop2⟩ := R.bind_ok.1 hop1
      obtain ⟨d, hd, hop3⟩ := R.bind_ok.1 hop2
      obtain ⟨fr', hfin, hop4⟩ := R.bind_ok.1 hop3
      cases hop4
      have hres : ∀ E', Agree D E E' → Deferred.ofValue (frC.eval f) (c.args.map frC.eval) = pure (concD E' d) := by
        intro E' he
        rw [← resolve_conc hd E', hρ E' he _ _ hu, ← evs_run (hρ E' he) _ _ hargs]
        congr 1
        simp [← Array.toList_inj]
      have hfc := finish_conc hfin
      refine ⟨(bot_fn (hfc E).2.2 cs).trans (bot_fn (by rfl) cs), ?_⟩
      refine hR.one (m' := { fr := fr', cs, h }) _ (fun _ => (0, 0)) (Nat.le_refl _) ⟨(hfc E).2.1 hR.wf.1, hR.wf.2⟩ ?_
      intro E' he H e1 e2 _
      refine ⟨w, step_lone_go ?_, H, Kept.refl K w⟩
      have hrun : (execOp frC.eval o).run P w = .ok (.defer (concD E' d)) w := by
        simp [execOp, hc, resolve, hf, hres E' he]
      rw [a.step (.inl hr0), ← (hfc E').1, ← e2]
      simp only [stepG.apply, hrun, Sem.runT_eq, if_true, GStep.bare_after, GStep.bare_go]
      rw [← e1]
      rfl
    · cases hop
  · -- panic
    rename_i x hx
    obtain ⟨u, hu, hop1⟩ := R.bind_ok.1 hop
    split at hop1
    · rename_i t v
      cases hop1
      have hnd : ∀ c, o.op ≠ .defer c := by rw [hx]; intro c e; cases e
      refine ⟨bot_fn (by unfold AFrame.raise; split <;> rfl) cs, ?_⟩
      refine hR.one (m' := { fr := fr.raise [{ v := .iface t v, recovered := false }], cs, h }) _ (fun _ => (0, 0)) (Nat.le_refl _) ⟨by unfold AFrame.raise; split <;> exact hR.wf.1, hR.wf.2⟩ ?_
      intro E' he H e1 e2 _
      refine ⟨w, step_lone_go ?_, H, Kept.refl K w⟩
      have hrun : (execOp frC.eval o).run P w = .halt (.panic (conc E' (.iface t v))) w := by
        simp [execOp, hx, hρ E' he _ _ hu, conc, Instr.panic, goPanic, Sem.run, Result.andThen]
      rw [a.step (.inr hnd), ← e2]
      simp only [stepG.apply, hrun, Sem.runT_eq, if_true, GStep.bare_after, GStep.bare_go]
      rw [← e1]
      simp [Frame.raise, AFrame.raise, concF, hm, concM, concP]
    · cases hop1
  · -- next
    rename_i it s hn
    obtain ⟨u, hu, hop1⟩ := R.bind_ok.1 hop
    obtain ⟨l, hl, hop2⟩ := R.bind_ok.1 hop1
    obtain ⟨ms, hms, hop3⟩ := R.bind_ok.1 hop2
    have hnd : ∀ c, o.op ≠ .defer c := by rw [hn]; intro c e; cases e
    obtain ⟨j, hj⟩ := nextOp_run (P := P) hl w o.type
    obtain ⟨v, h', hv, hh, _⟩ := hj E K (hR.all E (Agree.refl _ _)).1
    obtain ⟨y, hy, hg⟩ := mapM_mem hms _ (List.mem_of_getElem? hv)
    obtain ⟨fr', hfin, hg1⟩ := R.bind_ok.1 hg
    cases hg1
    have hfc := finish_conc hfin
    have hgets : bot fr' cs = bot fr cs ∧ Gets P h.next (lone frC csC w) D E K { fr := fr', cs, h := h' } base w := by
      refine ⟨bot_fn (hfc E).2.2 cs, ?_⟩
      refine hR.one (m' := { fr := fr', cs, h := h' }) _ (fun _ => (0, 0)) (by simp only; omega) ⟨(hfc E).2.1 hR.wf.1, hR.wf.2⟩ ?_
      intro E' he H e1 e2 _
      obtain ⟨v2, h2, hv2, _, w', s1, s2, s3⟩ := hj E' K H
      rw [hv] at hv2
      cases hv2
      refine ⟨w', ?_, s2, s3⟩
      rw [a.value (.inr hnd) csC (ofV (s := Instr.next (frC.eval it) s o.type) (by simp [execOp, hn]) (by rw [hρ E' he _ _ hu]; exact s1)) (.inl rfl), ← e1, ← e2, (hfc E').1]
    split at hop3
    · rename_i m
      cases hop3
      rcases List.mem_cons.1 hy with rfl | hy
      · exact hgets
      · cases hy
    · cases hop3
      exact ⟨_, hy, hgets⟩
  · exact hpure hop
end
end Go.Am

namespace Go.Am
open Go.RowKit
variable [Inhabited DrP]

section
variable {P : Program} {tab : Tab} (ok : TabOK P tab) {sub : FuncId → List AV → AH → R (List (AV × AH))} (hsub : SubOK P tab sub) (hext : ExtOK P tab)
variable {D : Nat → Prop} {E : Env} {K : KS} {base : List Frame} {frC : Frame} {csC : List Frame} {w : World}
variable {fr : AFrame} {cs : List AFrame} {h : AH}

theorem drop_goexit (E : Env) (l : List APE) : (l.map (concP E)).dropWhile (fun e => !e.goexit) = [] := by
  induction l with
  | nil => rfl
  | cons a l ih => simp [concP]; exact ih

theorem doReturn_one {v : AV} {m' : AM} (hd : doReturn fr cs v h = .ok (.next m')) (hwf : ∀ f ∈ cs, f.WF) (w : World) :
    m'.h = h ∧ bot m'.fr m'.cs = bot fr cs ∧ (m'.fr.WF ∧ ∀ f ∈ m'.cs, f.WF) ∧
    ∀ E base, (Go.doReturn P true (concF E fr) (cs.map (concF E) ++ base) none (conc E v) w).bare =
      .go { frame := concF E m'.fr, callers := m'.cs.map (concF E) ++ base, status := .running, dying := none } w := by
  unfold doReturn at hd
  split at hd
  · split at hd <;> cases hd
  · rename_i c rest
    have hc := hwf c List.mem_cons_self
    have hrest : ∀ f ∈ rest, f.WF := fun f hf => hwf f (List.mem_cons_of_mem _ hf)
    split at hd
    · rename_i hk
      obtain ⟨fr1, hf, hd1⟩ := R.bind_ok.1 hd
      cases hd1
      have hfc := finish_conc hf
      refine ⟨rfl, bot_fn (hfc ⟨fun _ => 0, fun _ => 0⟩).2.2 rest, ⟨(hfc ⟨fun _ => 0, fun _ => 0⟩).2.1 hc, hrest⟩, fun E base => ?_⟩
      have hk' : (concF E fr).kind = .normal := hk
      simp [Go.doReturn, hk', (hfc E).1]
    · rename_i hk
      split at hd
      · rename_i r hm
        cases hd
        refine ⟨rfl, bot_fn (by rfl) rest, ⟨hc, hrest⟩, fun E base => ?_⟩
        have hk' : (concF E fr).kind = .deferred := hk
        simp only [List.map_cons, List.cons_append, Go.doReturn, hk']
        simp only [concF, hm, concM, List.map_cons, concP]
        simp [drop_goexit]
      · rename_i hm
        cases hd
        refine ⟨rfl, rfl, ⟨hc, hrest⟩, fun E base => ?_⟩
        have hk' : (concF E fr).kind = .deferred := hk
        simp only [List.map_cons, List.cons_append, Go.doReturn, hk']
        split
        · rename_i heq
          exfalso
          simp only [concF, concM] at heq
          split at heq
          · cases heq
          · cases heq
          · rename_i chain hch
            cases chain with
            | nil => simp at heq
            | cons p older =>
              obtain ⟨v', rc⟩ := p
              simp [concP] at heq
              obtain ⟨⟨_, h2, _⟩, _⟩ := heq
              subst h2
              exact hm _ _ hch
        · rfl
    · cases hd

include ok in
theorem results_run {ts : T AV} {nt : Nat} (hwf : ∀ t, nt ≤ t → ts.get t = none) (H : HOK E h K w) : ∀ (l : List ResultVar) (vs : List AV), results tab h ts l = .ok vs →
    (l.mapM (m := Sem) fun
      | .tmp t => pure ((concTmps E ts nt).getD t undef)
      | .cell a t => do Go.loadVar t (← asAddr ((concTmps E ts nt).getD a undef))).run P w = .ok (concL E vs) w := by
  intro l
  induction l with
  | nil => intro vs h; simp only [results] at h; cases h; simp
  | cons x l ih =>
    intro vs hr
    rw [List.mapM_cons]
    cases x with
    | tmp t =>
      simp only [results] at hr
      obtain ⟨vs1, h1, h2⟩ := R.bind_ok.1 hr
      cases h2
      simp only [Sem.run_bind, Sem.run_pure, Result.andThen_ok, ih _ h1, tmps_getD E ts nt t hwf, concL_cons]
    | cell a t =>
      simp only [results] at hr
      split at hr
      · rename_i b off ha
        obtain ⟨v, h1, h2⟩ := R.bind_ok.1 hr
        obtain ⟨vs1, h3, h4⟩ := R.bind_ok.1 h2
        cases h4
        have hv := loadVar_run ok H h1
        have hva : asAddr (conc E (.ptr b off)) = pure ⟨E.blk b, off, none⟩ := rfl
        simp only [Sem.run_bind, Sem.run_pure, Result.andThen_ok, ih _ h3, tmps_getD E ts nt a hwf, concL_cons, ha, Option.getD_some, hva, hv]
      · cases hr

include ok in
theorem results_conc {fn : Func} {ts : T AV} {nt : Nat} (hwf : ∀ t, nt ≤ t → ts.get t = none) (H : HOK E h K w) {vs : List AV} (hr : results tab h ts fn.results.toList = .ok vs) :
    (Go.results fn (concTmps E ts nt)).run P w = .ok (conc E (result vs)) w := by
  have h1 := results_run ok hwf H _ _ hr
  unfold Go.results
  rw [Array.mapM_eq_mapM_toList, map_eq_pure_bind, Sem.run_bind, Sem.run_bind]
  erw [h1]
  simp only [Result.andThen_ok, Sem.run_pure]
  cases vs with
  | nil => simp [result, conc]
  | cons v vs =>
    cases vs with
    | nil => simp [result]
    | cons u vs => simp [result, conc]
end
end Go.Am

namespace Go.Am
open Go.RowKit
variable [Inhabited DrP]

section
variable {P : Program} {tab : Tab} (ok : TabOK P tab) {sub : FuncId → List AV → AH → R (List (AV × AH))} (hsub : SubOK P tab sub) (hext : ExtOK P tab)
variable {D : Nat → Prop} {E : Env} {K : KS} {base : List Frame} {frC : Frame} {csC : List Frame} {w : World}
variable {fr : AFrame} {cs : List AFrame} {h : AH}

theorem concF_ext {E E' : Env} (e : concF E' fr = concF E fr) : concTmps E' fr.tmps fr.nt = concTmps E fr.tmps fr.nt ∧ fr.todo.map (concI E') = fr.todo.map (concI E) ∧
    fr.defers.map (concD E') = fr.defers.map (concD E) ∧ concM E' fr.mode = concM E fr.mode ∧ fr.round.map E'.blk = fr.round.map E.blk := by
  simpa [concF] using e

def leaveC (P : Program) (fr : Frame) (callers : List Frame) (w : World) (jump : Option Code) : GStep :=
  match fr.roundOf with
  | none => if jump matches none | some .ret then .go { frame := { fr with mode := .returning }, callers, status := .running, dying := none } w else .ended (.stuck "exit, goto: no such block or label" (fr.pos P)) w
  | some l =>
    let (r, es) := (Instr.endRound l jump).runT P w #[]
    GStep.after (seen P fr.fn es) <| match r with
    | .ok v w => Go.doReturn P true fr callers none v w
    | .halt _ w => .ended (.stuck "range over a function: no such loop" (fr.pos P)) w

theorem doReturn_next {c : AFrame} {rest : List AFrame} {v : AV} {out : AOut} (hd : doReturn fr (c :: rest) v h = .ok out) : ∃ m', out = .next m' := by
  unfold doReturn at hd
  simp only at hd
  split at hd
  · obtain ⟨fr1, hf, hd1⟩ := R.bind_ok.1 hd
    cases hd1
    exact ⟨_, rfl⟩
  · split at hd <;> (cases hd; exact ⟨_, rfl⟩)
  · cases hd

theorem leave_sound {jump : Option Code} {out : AOut} (hl : leave fr cs h jump = .ok out) (hR : Rel D E K { fr, cs, h } base frC csC w)
    (hx : stepG P true { frame := frC, callers := csC, status := .running, dying := none } w = leaveC P frC csC w jump) : Out P h.next (lone frC csC w) D E K (bot fr cs) base w out := by
  unfold leave at hl
  split at hl
  · rename_i hround
    have hret : (jump = none ∨ jump = some .ret) → Out P h.next (lone frC csC w) D E K (bot fr cs) base w (.next { fr := { fr with mode := .returning }, cs, h }) := by
      intro hj
      refine ⟨bot_fn (by rfl) cs, ?_⟩
      refine hR.one (m' := { fr := { fr with mode := .returning }, cs, h }) _ (fun _ => (0, 0)) (Nat.le_refl _) ⟨hR.wf.1, hR.wf.2⟩ ?_
      intro E' he H e1 e2 _
      refine ⟨w, step_lone_go ?_, H, Kept.refl K w⟩
      rw [hx]
      have hr0 : frC.roundOf = none := by rw [← e1]; simp [concF, hround]
      have hgo : (leaveC P frC csC w jump).bare = .go { frame := { frC with mode := .returning }, callers := csC, status := .running, dying := none } w := by
        unfold leaveC
        rw [hr0]
        rcases hj with rfl | rfl <;> rfl
      rw [hgo, ← e1, ← e2]
      simp [concF, hround, concM]
    split at hl
    · cases hl; exact hret (.inl rfl)
    · cases hl; exact hret (.inr rfl)
    · cases hl
  · rename_i l hround
    split at hl
    · rename_i _ st pd fn ts nt ps a b d c rest hg
      obtain ⟨m', rfl⟩ := doReturn_next hl
      · obtain ⟨h1, h2, h3, h4⟩ := doReturn_one (P := P) hl hR.wf.2 w
        refine ⟨h2, ?_⟩
        refine hR.one _ (fun _ => (0, 0)) (by rw [h1]; exact Nat.le_refl _) h3 ?_
        intro E' he H e1 e2 _
        obtain ⟨o, ho, hoo, hw⟩ := H.obj l _ hg
        subst hoo
        let o' : Obj := .loop { state := if jump.isNone then .ready else .done, pending := jump, fn, tmps := concTmps E' ts nt, params := ps, assign := a, body := b, defers := E'.blk d }
        have hrun : (Instr.endRound (E'.blk l) jump).run P w = .ok (.bool jump.isNone) (w.put (E'.blk l) o') := by
          unfold Instr.endRound Instr.getLoop
          simp only [Sem.run_bind, run_getO ho (by simp), Result.andThen_ok, Sem.run_pure, run_setO ho (by simp)]
          rfl
        refine ⟨w.put (E'.blk l) o', step_lone_go ?_, ?_, H.kept_put hg (by simp [AO.ro]) _⟩
        · rw [hx]
          have hr0 : frC.roundOf = some (E'.blk l) := by rw [← e1]; simp [concF, hround]
          unfold leaveC
          rw [hr0]
          simp only [Sem.runT_eq, hrun, GStep.bare_after]
          have := (doReturn_one (P := P) hl hR.wf.2 (w.put (E'.blk l) o')).2.2.2 E' base
          simp only at e1 e2
          rw [e1, e2] at this
          exact this
        · rw [h1]
          refine H.put hg (by simp [AO.ro]) ⟨?_, hw⟩
          by_cases hj : jump.isNone <;> simp [o', hj]
    · cases hl

theorem stepG_unwind (hm : frC.mode ≠ .run) : stepG P true { frame := frC, callers := csC, status := .running, dying := none } w = Go.unwind P true frC csC none w := by
  unfold stepG
  cases hmode : frC.mode with
  | run => exact absurd hmode hm
  | returning => simp [hmode]
  | panicking c => simp [hmode]

include ok hsub hext in
theorem unwind_sound {out : AOut} (hu : unwind tab sub fr cs h = .ok out) (hm : ∀ (_ : fr.mode = .run), False) (hR : Rel D E K { fr, cs, h } base frC csC w) : Out P h.next (lone frC csC w) D E K (bot fr cs) base w out := by
  have hmC : frC.mode ≠ .run := by
    rw [← (hR.all E (Agree.refl _ _)).2.1]
    intro e
    simp only [concF, concM] at e
    split at e
    · rename_i hmm; exact hm hmm
    · cases e
    · cases e
  have hx := stepG_unwind (P := P) (csC := csC) (w := w) hmC
  unfold unwind at hu
  split at hu
  · -- a mark
    rename_i b args ds hds
    split at hu
    · rename_i calls hb
      cases hu
      refine ⟨bot_fn (by rfl) cs, ?_⟩
      refine hR.one (m' := { fr := { fr with defers := calls ++ ds }, cs, h := h.set b (.dfr none) }) _ (fun _ => (0, 0)) (Nat.le_refl _) ⟨hR.wf.1, hR.wf.2⟩ ?_
      intro E' he H e1 e2 _
      obtain ⟨o, ho, hoo⟩ := H.obj b _ hb
      simp only [OOK] at hoo
      subst hoo
      refine ⟨w.put (E'.blk b) (.deferred none), step_lone_go ?_, H.put hb (by simp [AO.ro]) (by simp [OOK]), H.kept_put hb (by simp [AO.ro]) _⟩
      rw [hx]
      have hrun : (Instr.takeDeferred (E'.blk b)).run P w = .ok (calls.map (concD E')) (w.put (E'.blk b) (.deferred none)) := by
        unfold Instr.takeDeferred
        simp only [Sem.run_bind, run_getO ho (by simp), Result.andThen_ok, Sem.run_pure, run_setO ho (by simp), Option.map_some]
      have hdef : frC.defers = { target := .collected (E'.blk b), args := (concL E' args).toArray } :: ds.map (concD E') := by
        rw [← e1]; simp [concF, hds, concD, concT]
      unfold Go.unwind
      simp only [hdef, Sem.runT_eq, hrun, GStep.bare_after, GStep.bare_go]
      rw [← e1, ← e2]
      simp [concF]
    · cases hu
  · -- a deferred call
    rename_i d ds hnc hds
    have hR' : Rel D E K { fr := { fr with defers := ds }, cs, h } base (concF E { fr with defers := ds }) csC w := by
      refine ⟨fun E' he => ?_, hR.dom, hR.wf.1, hR.wf.2⟩
      obtain ⟨g1, g2, g3⟩ := hR.all E' he
      refine ⟨g1, ?_, g3⟩
      obtain ⟨h1, h2, h3, h4, h5⟩ := concF_ext (g2.trans (hR.all E (Agree.refl _ _)).2.1.symm)
      rw [hds] at h3
      simp only [List.map_cons, List.cons.injEq] at h3
      simp [concF, h1, h2, h3.2, h4, h5]
    have hdrob : ∀ E', Agree D E E' → concD E' d = concD E d := by
      intro E' he
      obtain ⟨g1, g2, g3⟩ := hR.all E' he
      obtain ⟨h1, h2, h3, h4, h5⟩ := concF_ext (g2.trans (hR.all E (Agree.refl _ _)).2.1.symm)
      rw [hds] at h3
      simp only [List.map_cons, List.cons.injEq] at h3
      exact h3.1
    have hfr : frC = concF E fr := (hR.all E (Agree.refl _ _)).2.1.symm
    have hdef : frC.defers = concD E d :: ds.map (concD E) := by
      rw [hfr]; simp [concF, hds]
    have hfr' : ({ frC with defers := ds.map (concD E) } : Frame) = concF E { fr with defers := ds } := by
      rw [hfr]; rfl
    have hux : Go.unwind P true frC csC none w = callDeferred P (concF E { fr with defers := ds }) csC none (concD E d) w := by
      have hnc' : ∀ b, (concD E d).target ≠ .collected b := by
        intro b e
        obtain ⟨t, a⟩ := d
        cases t with
        | fn f c => simp [concD, concT] at e
        | yld l => simp [concD, concT] at e
        | collected r => exact hnc _ _ rfl
      unfold Go.unwind
      rw [hdef]
      split
      · rename_i b ds' _ heq
        simp only [List.cons.injEq] at heq
        exact absurd (by rw [heq.1]) (hnc' _)
      · rename_i heq
        simp only [List.cons.injEq] at heq
        obtain ⟨rfl, rfl⟩ := heq
        rw [hfr']
      · rename_i heq; cases heq
    obtain ⟨tg, tc, htgt⟩ : ∃ g c, (concD E d).target = .fn g c := by
      obtain ⟨t, a⟩ := d
      cases t with
      | fn f c => exact ⟨_, _, rfl⟩
      | yld l => exact ⟨_, _, rfl⟩
      | collected r => exact absurd rfl (fun e => hnc r a e)
    rw [← bot_fn (fr := fr) (fr' := { fr with defers := ds }) rfl cs]
    refine (callTarget_sound ok hsub hext hu hR' (lone frC csC w) (dC := concD E d) ⟨fun f x w' hr => ?_, fun l f t x b w' hr => ?_, fun v w' hr hk => ?_⟩ hdrob)
    · refine step_lone_go ?_
      rw [hx, hux]
      unfold callDeferred
      rw [htgt] at hr
      simp only [htgt, Bool.false_and, Bool.false_eq_true, if_false, Sem.runT_eq, hr, GStep.bare_after, GStep.bare_go]
    · refine step_lone_go ?_
      rw [hx, hux]
      unfold callDeferred
      rw [htgt] at hr
      simp only [htgt, Bool.false_and, Bool.false_eq_true, if_false, Sem.runT_eq, hr, GStep.bare_after, GStep.bare_go]
    · cases hk
  · rename_i hds
    have hdef : frC.defers = [] := by
      rw [← (hR.all E (Agree.refl _ _)).2.1]; simp [concF, hds]
    split at hu
    · cases hu
    · -- panicking
      rename_i chain hmode
      split at hu
      · rename_i c rest
        cases hu
        refine ⟨bot_fn (by unfold AFrame.raise; split <;> rfl) rest, ?_⟩
        refine hR.one (m' := { fr := c.raise chain, cs := rest, h }) _ (fun _ => (0, 0)) (Nat.le_refl _)
          ⟨by have := hR.wf.2 c List.mem_cons_self; unfold AFrame.raise; split <;> exact this, fun f hf => hR.wf.2 f (List.mem_cons_of_mem _ hf)⟩ ?_
        intro E' he H e1 e2 _
        refine ⟨w, step_lone_go ?_, H, Kept.refl K w⟩
        have hmd : frC.mode = .panicking (chain.map (concP E')) := by rw [← e1]; simp [concF, hmode, concM]
        have hcat : frC.catches P = false := by
          unfold Frame.catches
          rw [← e1]
          cases P.funcs[(concF E' fr).fn]? with
          | some _ => rfl
          | none =>
            cases htd : fr.todo with
            | nil => simp [concF, htd]
            | cons x l => cases x <;> simp [concF, htd, concI]
        rw [hx]
        unfold Go.unwind
        simp only [hdef, hmd, hcat, Bool.false_eq_true, if_false]
        rw [← e2]
        simp only [List.map_cons, List.cons_append, GStep.bare_go]
        congr 2
        unfold Frame.raise AFrame.raise
        cases hcm : c.mode <;> simp [concF, hcm, concM]
      · cases hu
    · -- returning
      rename_i hmode
      split at hu
      · cases hu
      · rename_i fn hfn
        obtain ⟨vs, hvs, hu1⟩ := R.bind_ok.1 hu
        have hP := ok.fns _ _ hfn
        have hmd : frC.mode = .returning := by rw [← (hR.all E (Agree.refl _ _)).2.1]; simp [concF, hmode, concM]
        have hres : ∀ E', Agree D E E' → (Go.results fn frC.tmps).run P w = .ok (conc E' (result vs)) w := by
          intro E' he
          obtain ⟨g1, g2, g3⟩ := hR.all E' he
          rw [← g2]
          exact results_conc ok hR.wf.1 g1 hvs
        have hfn' : frC.fn = fr.fn := by rw [← (hR.all E (Agree.refl _ _)).2.1]; rfl
        have hP' : P.funcs[frC.fn]? = some fn := by rw [hfn']; exact hP
        have hxx : ∀ E', Agree D E E' → (stepG P true { frame := frC, callers := csC, status := .running, dying := none } w).bare = (Go.doReturn P true frC csC none (conc E' (result vs)) w).bare := by
          intro E' he
          rw [hx]
          unfold Go.unwind
          simp only [hdef, hmd, hP', Sem.runT_eq, hres E' he, GStep.bare_after]
        cases cs with
        | cons c rest =>
          obtain ⟨m', rfl⟩ := doReturn_next hu1
          obtain ⟨h1, h2, h3, h4⟩ := doReturn_one (P := P) hu1 hR.wf.2 w
          refine ⟨h2, ?_⟩
          refine hR.one _ (fun _ => (0, 0)) (by rw [h1]; exact Nat.le_refl _) h3 ?_
          intro E' he H e1 e2 _
          refine ⟨w, step_lone_go ?_, by rw [h1]; exact H, Kept.refl K w⟩
          rw [hxx E' he]
          have := h4 E' base
          simp only at e1 e2
          rw [e1, e2] at this
          exact this
        | nil =>
          unfold doReturn at hu1
          simp only at hu1
          split at hu1
          · rename_i hk
            cases hu1
            have hk' : frC.kind = .normal := by rw [← (hR.all E (Agree.refl _ _)).2.1]; exact hk
            have hcs : csC = base := by rw [← (hR.all E (Agree.refl _ _)).2.2]; rfl
            subst hcs
            refine ⟨frC, w, conc E (result vs), E, D, Steps.refl P _, hfn', ⟨hmd, hdef, hk', fn, hP', hres E (Agree.refl _ _)⟩, ?_, Agree.refl _ _, fun _ hi => hi, hR.dom, Kept.refl K w, Nat.le_refl _, fun _ hi => .inl hi⟩
            intro E'' he
            refine ⟨(hR.all E'' he).1, ?_⟩
            have h1 := hres E'' he
            rw [hres E (Agree.refl _ _)] at h1
            simpa using h1.symm
          · cases hu1
end
end Go.Am

namespace Go.Am
open Go.RowKit
variable [Inhabited DrP]

section
variable {P : Program} {tab : Tab} (ok : TabOK P tab) {sub : FuncId → List AV → AH → R (List (AV × AH))} (hsub : SubOK P tab sub) (hext : ExtOK P tab)
variable {D : Nat → Prop} {E : Env} {K : KS} {base : List Frame} {frC : Frame} {csC : List Frame} {w : World}
variable {fr : AFrame} {cs : List AFrame} {h : AH}

theorem Rel.grow {m : AM} (hR : Rel D E K m base frC csC w) (m' : AM) (fr' : Frame) (w' : World) (f : Nat → Nat × Nat) (hn : m.h.next ≤ m'.h.next) (hwf : m'.fr.WF ∧ ∀ f ∈ m'.cs, f.WF) (hcs : m'.cs = m.cs)
    (h1 : ∀ E', Agree D E E' → HOK E' m.h K w → concF E' m.fr = frC → (∀ i, m.h.next ≤ i → i < m'.h.next → E'.blk i = (f i).1 ∧ E'.cap i = (f i).2) → HOK E' m'.h K w' ∧ concF E' m'.fr = fr') :
    ∃ D1 E1, Rel D1 E1 K m' base fr' csC w' ∧ Agree D E E1 ∧ (∀ i, D i → D1 i) ∧ (∀ i, m.h.next ≤ i → i < m'.h.next → ∀ E', Agree D1 E1 E' → E'.blk i = (f i).1) ∧ (∀ i, D1 i → D i ∨ m.h.next ≤ i) := by
  obtain ⟨E1, ha, hE⟩ := hR.near f
  let D1 : Nat → Prop := fun i => D i ∨ (m.h.next ≤ i ∧ i < m'.h.next)
  have hnew : ∀ i, m.h.next ≤ i → i < m'.h.next → ∀ E', Agree D1 E1 E' → E'.blk i = (f i).1 ∧ E'.cap i = (f i).2 := by
    intro i hi hj E' he
    have h2 := he i (.inr ⟨hi, hj⟩)
    have h3 := hE i hi
    exact ⟨h2.1.trans h3.1, h2.2.trans h3.2⟩
  refine ⟨D1, E1, ⟨fun E' he => ?_, fun i hi => ?_, hwf⟩, ha, fun i hi => .inl hi, fun i hi hj E' he => (hnew i hi hj E' he).1, fun i hi => hi.elim .inl (fun h => .inr h.1)⟩
  · have hd : Agree D E E' := ha.trans he (fun i hi => .inl hi)
    obtain ⟨g1, g2, g3⟩ := hR.all E' hd
    obtain ⟨k1, k2⟩ := h1 E' hd g1 g2 (fun i hi hj => hnew i hi hj E' he)
    exact ⟨k1, k2, by rw [hcs]; exact g3⟩
  · rcases hi with hi | hi
    · have := hR.dom i hi; omega
    · exact hi.2

theorem ctx_of_apply {M0 : Machine} {frC' : Frame} {fr0 : Frame} {w0 : World} {s : Sem Next} {dC : Deferred} (hM : M0 = lone fr0 csC w0)
    (hx : (stepG P true { frame := fr0, callers := csC, status := .running, dying := none } w0).bare = (stepG.apply P true frC' csC none s w).bare)
    (ht : ∃ l k, frC'.todo = .inRangeFunc l :: k) (hs : s.run P w = (invoke dC.target dC.args).run P w) : Ctx P M0 frC' csC w .normal dC := by
  subst hM
  obtain ⟨l, k, ht⟩ := ht
  refine ⟨fun f x w' hr => ?_, fun l f t x b w' hr => ?_, fun v w' hr _ => ?_⟩
  · refine step_lone_go ?_
    rw [hx]
    simp [stepG.apply, hs, hr, ht]
  · refine step_lone_go ?_
    rw [hx]
    simp [stepG.apply, hs, hr]
  · refine step_lone_go ?_
    rw [hx, apply_value (by rw [hs, hr]) (.inl rfl)]

def DrawOK (P : Program) (tab : Tab) (sub : FuncId → List AV → AH → R (List (AV × AH))) : Prop :=
  ∀ (fr : AFrame) (cs : List AFrame) (h : AH) (id : Nat) (ops : Array Oper) (k : List AItem) (ts : T AV) (h' : AH), fr.mode = .run → fr.todo = .code (.region id ops true) :: k → draw tab sub ops fr.nt fr.tmps h = .ok (ts, h') →
    ∀ (D : Nat → Prop) (E : Env) (K : KS) (base : List Frame) (frC : Frame) (csC : List Frame) (w : World), Rel D E K { fr, cs, h } base frC csC w →
      Gets P h.next (lone frC csC w) D E K { fr := { fr with tmps := ts, todo := k }, cs, h := h' } base w

include ok hsub hext in
theorem range_sound {f : Operand} {ps : Array Tmp} {a b : Code} {k : List AItem} {out : AOut} (hm : fr.mode = .run) (ht : fr.todo = .code (.rangeFunc f ps a b) :: k) (hR : Rel D E K { fr, cs, h } base frC csC w)
    (hs : (do
      let d ← resolveV (← ev fr.tmps f) [.yld (bif fr.round.isNone then h.next + 1 else h.next)]
      match fr.round with
      | none =>
        let h1 := h.new (.dfr (some []))
        let h2 := h1.new (.loop .ready none fr.fn fr.tmps fr.nt ps a b h.next)
        callTarget tab sub { fr with todo := .inRange (h.next + 1) :: k, defers := { target := .collected h.next, args := [] } :: fr.defers } cs h2 d .normal
      | some l =>
        match h.get l with
        | some (.loop _ _ _ _ _ _ _ _ dd) =>
          let h2 := h.new (.loop .ready none fr.fn fr.tmps fr.nt ps a b dd)
          callTarget tab sub { fr with todo := .inRange h.next :: k } cs h2 d .normal
        | _ => .no "rangeFunc: loop" : R AOut) = .ok out) : Out P h.next (lone frC csC w) D E K (bot fr cs) base w out := by
  obtain ⟨u, hu, hs1⟩ := R.bind_ok.1 hs
  obtain ⟨d, hd, hs2⟩ := R.bind_ok.1 hs1
  clear hs hs1
  have hρ : ∀ E', Agree D E E' → ∀ x u, ev fr.tmps x = .ok u → frC.eval x = conc E' u := by
    intro E' he x u hx
    rw [← (hR.all E' he).2.1]
    exact ev_conc hR.wf.1 E' hx
  have hmC : frC.mode = .run := by rw [← (hR.all E (Agree.refl _ _)).2.1]; simp [concF, hm, concM]
  have htC : frC.todo = .code (.rangeFunc f ps a b) :: k.map (concI E) := by rw [← (hR.all E (Agree.refl _ _)).2.1]; simp [concF, ht, concI]
  have hfnC : frC.fn = fr.fn := by rw [← (hR.all E (Agree.refl _ _)).2.1]; rfl
  have hrob : ∀ E', Agree D E E' → concF E' fr = concF E fr := fun E' he => (hR.all E' he).2.1.trans (hR.all E (Agree.refl _ _)).2.1.symm
  split at hs2
  · rename_i hround
    simp only [hround, Option.isNone_none, cond_true] at hd
    have hr0 : frC.roundOf = none := by rw [← (hR.all E (Agree.refl _ _)).2.1]; simp [concF, hround]
    let N := w.heap.size
    let w1 := w.alloc (.deferred (some []))
    let w2 := w1.alloc (.loop { state := .ready, pending := none, fn := fr.fn, tmps := frC.tmps, params := ps, assign := a, body := b, defers := N })
    let frC' : Frame := { frC with todo := .inRangeFunc (N + 1) :: k.map (concI E), defers := { target := .collected N, args := #[] } :: frC.defers, mode := .run }
    have hparts : ∀ E', Agree D E E' → concTmps E' fr.tmps fr.nt = frC.tmps ∧ k.map (concI E') = k.map (concI E) ∧ fr.defers.map (concD E') = frC.defers ∧ concM E' fr.mode = frC.mode ∧ fr.kind = frC.kind ∧ fr.round.map E'.blk = frC.roundOf := by
      intro E' he
      have e1 := (hR.all E' he).2.1
      obtain ⟨_, g2, _⟩ := concF_ext (hrob E' he)
      simp only [ht, List.map_cons, List.cons.injEq] at g2
      simp only at e1
      exact ⟨by rw [← e1]; rfl, g2.2, by rw [← e1]; rfl, by rw [← e1]; rfl, by rw [← e1]; rfl, by rw [← e1]; rfl⟩
    obtain ⟨D1, E1, hR1, ha1, hd1, hb1, hw1⟩ := hR.grow { fr := { fr with todo := .inRange (h.next + 1) :: k, defers := { target := .collected h.next, args := [] } :: fr.defers }, cs, h := (h.new (.dfr (some []))).new (.loop .ready none fr.fn fr.tmps fr.nt ps a b h.next) }
      frC' w2 (fun i => (N + (i - h.next), 0)) (by simp only [AH.next_new]; omega) ⟨hR.wf.1, hR.wf.2⟩ rfl (by
        intro E' he H e1 hE'
        have b1 : E'.blk h.next = N := by have := (hE' h.next (Nat.le_refl _) (by simp only [AH.next_new]; omega)).1; simpa using this
        have b2 : E'.blk (h.next + 1) = N + 1 := by have := (hE' (h.next + 1) (by simp) (by simp only [AH.next_new]; omega)).1; simpa using this
        have H1 : HOK E' (h.new (.dfr (some []))) K w1 := H.new b1 (by simp [OOK])
        have hsz : w1.heap.size = N + 1 := by simp [w1, N]
        obtain ⟨p1, p2, p3, p4, p5, p6⟩ := hparts E' he
        refine ⟨H1.new (by simp only [AH.next_new]; rw [b2, hsz]) ⟨?_, hR.wf.1⟩, ?_⟩
        · rw [p1, b1]
        · simp only [concF, List.map_cons, concI, concD, concT, b1, b2, p1, p2, p3, p4, p5, p6, frC', hfnC, concL_nil, hmC])
    have hrun : (Instr.enterLoop frC.fn frC.tmps ps a b frC.roundOf).run P w = .ok (N + 1, [{ target := .collected N, args := #[] }]) w2 := by
      rw [hr0, hfnC]
      unfold Instr.enterLoop
      simp only [Sem.run_bind, run_newObj, Result.andThen_ok, Sem.run_pure]
      simp [N]
      rfl
    have hresv : ∀ E', Agree D1 E1 E' → Deferred.ofValue (frC.eval f) #[.func (.yield (N + 1)) #[] #[]] = pure (concD E' d) := by
      intro E' he
      rw [← resolve_conc hd E', hρ E' (ha1.trans he hd1) _ _ hu]
      have h3 : E'.blk (h.next + 1) = N + 1 := by
        have := hb1 (h.next + 1) (by simp) (by simp only [AH.next_new]; omega) E' he
        simpa using this
      simp only [concL_cons, concL_nil, conc, h3]
    have hdrob := concD_robust hresv
    rw [← bot_fn (fr := fr) (fr' := { fr with todo := .inRange (h.next + 1) :: k, defers := { target := .collected h.next, args := [] } :: fr.defers }) rfl cs]
    refine Out.trans (Steps.refl P _) ha1 hd1 ?_ (by simp only [AH.next_new]; omega) hw1 (callTarget_sound ok hsub hext hs2 hR1 (lone frC csC w) (dC := concD E1 d) ?_ hdrob)
    · exact (Kept.alloc (hR.all E (Agree.refl _ _)).1.kb _).trans (Kept.alloc (fun b hb => by have := (hR.all E (Agree.refl _ _)).1.kb b hb; simp [w1]; omega) _)
    · refine ctx_of_apply (s := do let d ← resolve frC'.eval { callee := .value f, args := #[.const (.func (.yield (N + 1)) #[] #[])], argTypes := #[] } 0; invoke d.target d.args) rfl ?_ ⟨N + 1, _, rfl⟩ ?_
      · unfold stepG stepG.exec
        simp only [hmC, htC, Sem.runT_eq, hrun, GStep.bare_after]
        rfl
      · have he : frC'.eval f = frC.eval f := by cases f <;> rfl
        have h2 := hresv E1 (Agree.refl _ _)
        simp only [Sem.run_bind, resolve, he]
        have hargs : Array.map frC'.eval #[.const (.func (.yield (N + 1)) #[] #[])] = #[.func (.yield (N + 1)) #[] #[]] := by simp [Frame.eval]
        rw [hargs, h2]
        simp
  · rename_i l hround
    simp only [hround, Option.isNone_some, cond_false] at hd
    split at hs2
    · rename_i st pd fn' ts nt ps' a' b' dd hl
      let N := w.heap.size
      let blkL := E.blk l
      have hloop : ∀ E', Agree D E E' → ∃ o, w.heap[E'.blk l]? = some (.loop o) ∧ o.defers = E'.blk dd := by
        intro E' he
        obtain ⟨o, ho, hoo, _⟩ := (hR.all E' he).1.obj l _ hl
        subst hoo
        exact ⟨_, ho, rfl⟩
      have hr0 : ∀ E', Agree D E E' → frC.roundOf = some (E'.blk l) := by
        intro E' he
        rw [← (hR.all E' he).2.1]; simp [concF, hround]
      obtain ⟨o, ho, hod⟩ := hloop E (Agree.refl _ _)
      have hdd : ∀ E', Agree D E E' → E'.blk dd = o.defers := by
        intro E' he
        obtain ⟨o', ho', hod'⟩ := hloop E' he
        have h1 := hr0 E' he
        rw [hr0 E (Agree.refl _ _)] at h1
        simp only [Option.some.injEq] at h1
        rw [← h1, ho] at ho'
        cases ho'
        exact hod'.symm
      let w2 := w.alloc (.loop { state := .ready, pending := none, fn := fr.fn, tmps := frC.tmps, params := ps, assign := a, body := b, defers := o.defers })
      let frC' : Frame := { frC with todo := .inRangeFunc N :: k.map (concI E), mode := .run }
      have hparts : ∀ E', Agree D E E' → concTmps E' fr.tmps fr.nt = frC.tmps ∧ k.map (concI E') = k.map (concI E) ∧ fr.defers.map (concD E') = frC.defers ∧ concM E' fr.mode = frC.mode ∧ fr.kind = frC.kind ∧ fr.round.map E'.blk = frC.roundOf := by
        intro E' he
        have e1 := (hR.all E' he).2.1
        obtain ⟨_, g2, _⟩ := concF_ext (hrob E' he)
        simp only [ht, List.map_cons, List.cons.injEq] at g2
        simp only at e1
        exact ⟨by rw [← e1]; rfl, g2.2, by rw [← e1]; rfl, by rw [← e1]; rfl, by rw [← e1]; rfl, by rw [← e1]; rfl⟩
      obtain ⟨D1, E1, hR1, ha1, hd1, hb1, hw1⟩ := hR.grow { fr := { fr with todo := .inRange h.next :: k }, cs, h := h.new (.loop .ready none fr.fn fr.tmps fr.nt ps a b dd) }
        frC' w2 (fun _ => (N, 0)) (by simp) ⟨hR.wf.1, hR.wf.2⟩ rfl (by
          intro E' he H e1 hE'
          have b1 : E'.blk h.next = N := (hE' h.next (Nat.le_refl _) (by simp)).1
          obtain ⟨p1, p2, p3, p4, p5, p6⟩ := hparts E' he
          refine ⟨H.new b1 ⟨?_, hR.wf.1⟩, ?_⟩
          · rw [p1, hdd E' he]
          · simp only [concF, List.map_cons, concI, b1, p1, p2, p3, p4, p5, p6, frC', hfnC, hmC])
      have hrun : (Instr.enterLoop frC.fn frC.tmps ps a b frC.roundOf).run P w = .ok (N, []) w2 := by
        rw [hr0 E (Agree.refl _ _), hfnC]
        unfold Instr.enterLoop Instr.getLoop
        simp only [Sem.run_bind, run_getO ho (by simp), run_newObj, Result.andThen_ok, Sem.run_pure]
        rfl
      have hresv : ∀ E', Agree D1 E1 E' → Deferred.ofValue (frC.eval f) #[.func (.yield N) #[] #[]] = pure (concD E' d) := by
        intro E' he
        rw [← resolve_conc hd E', hρ E' (ha1.trans he hd1) _ _ hu]
        have h3 : E'.blk h.next = N := hb1 h.next (Nat.le_refl _) (by simp) E' he
        simp only [concL_cons, concL_nil, conc, h3]
      have hdrob := concD_robust hresv
      rw [← bot_fn (fr := fr) (fr' := { fr with todo := .inRange h.next :: k }) rfl cs]
      refine Out.trans (Steps.refl P _) ha1 hd1 ?_ (by simp only [AH.next_new]; omega) hw1 (callTarget_sound ok hsub hext hs2 hR1 (lone frC csC w) (dC := concD E1 d) ?_ hdrob)
      · exact Kept.alloc (hR.all E (Agree.refl _ _)).1.kb _
      · refine ctx_of_apply (s := do let d ← resolve frC'.eval { callee := .value f, args := #[.const (.func (.yield N) #[] #[])], argTypes := #[] } 0; invoke d.target d.args) rfl ?_ ⟨N, _, rfl⟩ ?_
        · unfold stepG stepG.exec
          simp only [hmC, htC, Sem.runT_eq, hrun, GStep.bare_after]
          rfl
        · have he : frC'.eval f = frC.eval f := by cases f <;> rfl
          have h2 := hresv E1 (Agree.refl _ _)
          simp only [Sem.run_bind, resolve, he]
          have hargs : Array.map frC'.eval #[.const (.func (.yield N) #[] #[])] = #[.func (.yield N) #[] #[]] := by simp [Frame.eval]
          rw [hargs, h2]
          simp
    · cases hs2
end
end Go.Am

namespace Go.Am
open Go.RowKit
variable [Inhabited DrP]

section
variable {P : Program} {tab : Tab} (ok : TabOK P tab) {sub : FuncId → List AV → AH → R (List (AV × AH))} (hsub : SubOK P tab sub) (hext : ExtOK P tab) (hdraw : DrawOK P tab sub)
variable {D : Nat → Prop} {E : Env} {K : KS} {base : List Frame} {frC : Frame} {csC : List Frame} {w : World}

theorem leave_nil (hm : frC.mode = .run) (ht : frC.todo = []) : stepG P true { frame := frC, callers := csC, status := .running, dying := none } w = leaveC P frC csC w none := by
  obtain ⟨fn, tmps, todo, defers, mode, kind, roundOf⟩ := frC
  simp only at hm ht
  subst hm ht
  cases roundOf with
  | none => simp [stepG, stepG.exec, leaveC]
  | some l =>
    simp [stepG, stepG.exec, leaveC]
    rfl
theorem leave_ret {k : List Item} (hm : frC.mode = .run) (ht : frC.todo = .code .ret :: k) : stepG P true { frame := frC, callers := csC, status := .running, dying := none } w = leaveC P frC csC w (some .ret) := by
  obtain ⟨fn, tmps, todo, defers, mode, kind, roundOf⟩ := frC
  simp only at hm ht
  subst hm ht
  cases roundOf with
  | none => simp [stepG, stepG.exec, leaveC]
  | some l =>
    simp [stepG, stepG.exec, leaveC]
    rfl
theorem leave_exit {id : Nat} {k : List Item} (hm : frC.mode = .run) (ht : frC.todo = .code (.exit id) :: k) (hk : Go.exitTo id k = none) : stepG P true { frame := frC, callers := csC, status := .running, dying := none } w = leaveC P frC csC w (some (.exit id)) := by
  obtain ⟨fn, tmps, todo, defers, mode, kind, roundOf⟩ := frC
  simp only at hm ht
  subst hm ht
  cases roundOf with
  | none => simp [stepG, stepG.exec, leaveC, hk]
  | some l =>
    simp [stepG, stepG.exec, leaveC, hk]
    rfl

theorem ctl_step {fr : AFrame} {cs : List AFrame} {h : AH} (hR : Rel D E K { fr, cs, h } base frC csC w) (k : List AItem)
    (hx : ∀ E' cs', Go.step P (lone (concF E' fr) cs' w) = .next (lone (concF E' { fr with todo := k }) cs' w)) :
    Out P h.next (lone frC csC w) D E K (bot fr cs) base w (.next { fr := { fr with todo := k }, cs, h }) :=
  ⟨bot_fn (by rfl) cs, hR.ctl { fr with todo := k } hR.wf.1 hx⟩

include ok hsub hext hdraw in
theorem step_sound {m : AM} {out : AOut} (hs : step tab sub m = .ok out) (hR : Rel D E K m base frC csC w) : Out P m.h.next (lone frC csC w) D E K (bot m.fr m.cs) base w out := by
  obtain ⟨fr, cs, h⟩ := m
  unfold step at hs
  simp only at hs
  split at hs
  · rename_i hm
    have hmC : frC.mode = .run := by rw [← (hR.all E (Agree.refl _ _)).2.1]; simp [concF, hm, concM]
    split at hs
    · -- the end
      rename_i ht
      have htC : frC.todo = [] := by rw [← (hR.all E (Agree.refl _ _)).2.1]; simp [concF, ht]
      exact leave_sound hs hR (leave_nil hmC htC)
    · rename_i k ht
      have htC : frC.todo = .code .ret :: k.map (concI E) := by rw [← (hR.all E (Agree.refl _ _)).2.1]; simp [concF, ht, concI]
      exact leave_sound hs hR (leave_ret hmC htC)
    · rename_i k ht
      cases hs
      exact ctl_step hR k (fun E' cs' => step_lone_go (by simp [stepG, stepG.exec, concF, hm, ht, concM, concI]))
    · rename_i l k ht
      cases hs
      exact ctl_step hR k (fun E' cs' => step_lone_go (by simp [stepG, stepG.exec, concF, hm, ht, concM, concI]))
    · rename_i l k ht
      cases hs
      exact ctl_step hR k (fun E' cs' => step_lone_go (by simp [stepG, stepG.exec, concF, hm, ht, concM, concI]))
    · rename_i l k ht
      cases hs
      exact ctl_step hR k (fun E' cs' => step_lone_go (by simp [stepG, stepG.exec, concF, hm, ht, concM, concI]))
    · rename_i a b k ht
      cases hs
      exact ctl_step hR _ (fun E' cs' => step_lone_go (by simp [stepG, stepG.exec, concF, hm, ht, concM, concI]))
    · -- cond
      rename_i c a b k ht
      obtain ⟨u, hu, hs1⟩ := R.bind_ok.1 hs
      split at hs1
      · cases hs1
        exact ctl_step hR _ (fun E' cs' => step_lone_go (by
          have := ev_conc hR.wf.1 E' hu
          simp only [conc] at this
          simp [stepG, stepG.exec, concF, hm, ht, concM, concI] at this ⊢
          simp [this]))
      · cases hs1
        exact ctl_step hR _ (fun E' cs' => step_lone_go (by
          have := ev_conc hR.wf.1 E' hu
          simp only [conc] at this
          simp [stepG, stepG.exec, concF, hm, ht, concM, concI] at this ⊢
          simp [this]))
      · cases hs1
    · rename_i id b k ht
      cases hs
      exact ctl_step hR _ (fun E' cs' => step_lone_go (by simp [stepG, stepG.exec, concF, hm, ht, concM, concI]))
    · rename_i b k ht
      cases hs
      exact ctl_step hR _ (fun E' cs' => step_lone_go (by simp [stepG, stepG.exec, concF, hm, ht, concM, concI]))
    · rename_i b k ht
      cases hs
      exact ctl_step hR _ (fun E' cs' => step_lone_go (by simp [stepG, stepG.exec, concF, hm, ht, concM, concI]))
    · rename_i b k ht
      cases hs
      exact ctl_step hR _ (fun E' cs' => step_lone_go (by simp [stepG, stepG.exec, concF, hm, ht, concM, concI]))
    · -- exit
      rename_i id k ht
      split at hs
      · rename_i k' hk
        cases hs
        exact ctl_step hR _ (fun E' cs' => step_lone_go (by simp [stepG, stepG.exec, concF, hm, ht, concM, concI, exitTo_conc, hk]))
      · rename_i hk
        have htC : frC.todo = .code (.exit id) :: k.map (concI E) := by rw [← (hR.all E (Agree.refl _ _)).2.1]; simp [concF, ht, concI]
        exact leave_sound hs hR (leave_exit hmC htC (by rw [exitTo_conc, hk]; rfl))
    · -- range over a function
      rename_i f ps a b k ht
      exact range_sound ok hsub hext hm ht hR hs
    · -- its end
      rename_i l k ht
      split at hs
      · rename_i st pd fn ts nt ps a b d hl
        have hbusy : st ≠ .busy := by intro e; subst e; cases hs
        have hs1 : (R.ok (AOut.next { fr := { fr with todo := (pd.map AItem.code).toList ++ k }, cs, h := h.set l (.loop .exhausted pd fn ts nt ps a b d) }) : R AOut) = .ok out := by
          cases st <;> first | exact hs | exact absurd rfl hbusy
        cases hs1
        refine ⟨bot_fn (by rfl) cs, ?_⟩
        refine hR.one (m' := { fr := { fr with todo := (pd.map AItem.code).toList ++ k }, cs, h := h.set l (.loop .exhausted pd fn ts nt ps a b d) }) _ (fun _ => (0, 0)) (Nat.le_refl _) ⟨hR.wf.1, hR.wf.2⟩ ?_
        intro E' he H e1 e2 _
        obtain ⟨o, ho, hoo, hw⟩ := H.obj l _ hl
        subst hoo
        let o' : Obj := .loop { state := .exhausted, pending := pd, fn, tmps := concTmps E' ts nt, params := ps, assign := a, body := b, defers := E'.blk d }
        have hrun : (Instr.endLoop (E'.blk l)).run P w = .ok pd (w.put (E'.blk l) o') := by
          unfold Instr.endLoop Instr.getLoop
          have : (st == LoopState.busy) = false := by cases st <;> first | rfl | exact absurd rfl hbusy
          simp only [Sem.run_bind, run_getO ho (by simp), Result.andThen_ok, Sem.run_pure, this, Bool.false_eq_true, if_false, run_setO ho (by simp)]
          rfl
        refine ⟨w.put (E'.blk l) o', step_lone_go ?_, H.put hl (by simp [AO.ro]) ⟨rfl, hw⟩, H.kept_put hl (by simp [AO.ro]) _⟩
        simp only at e1 e2
        have htC : frC.todo = .endRangeFunc (E'.blk l) :: k.map (concI E') := by rw [← e1]; simp [concF, ht, concI]
        rw [← e2]
        have hgoal : concF E' { fr with todo := (pd.map AItem.code).toList ++ k } = { frC with todo := (pd.map Item.code).toList ++ k.map (concI E') } := by
          rw [← e1]
          cases pd <;> simp [concF, concI]
        simp only [hgoal]
        unfold stepG stepG.exec
        simp only [hmC, htC, Sem.runT_eq, hrun, GStep.bare_after, GStep.bare_go]
      · cases hs
    · -- a round begins
      rename_i k ht
      split at hs
      · rename_i l hround
        split at hs
        · rename_i pd fn ts nt ps a b d hl
          cases hs
          refine ⟨bot_fn (by rfl) cs, ?_⟩
          refine hR.one (m' := { fr := { fr with todo := k }, cs, h := h.set l (.loop .busy pd fn ts nt ps a b d) }) _ (fun _ => (0, 0)) (Nat.le_refl _) ⟨hR.wf.1, hR.wf.2⟩ ?_
          intro E' he H e1 e2 _
          obtain ⟨o, ho, hoo, hw⟩ := H.obj l _ hl
          subst hoo
          let o' : Obj := .loop { state := .busy, pending := pd, fn, tmps := concTmps E' ts nt, params := ps, assign := a, body := b, defers := E'.blk d }
          simp only at e1 e2
          have hr0 : frC.roundOf = some (E'.blk l) := by rw [← e1]; simp [concF, hround]
          have htC : frC.todo = .beginRound :: k.map (concI E') := by rw [← e1]; simp [concF, ht, concI]
          have hrun : (do frC.roundOf.elim (stuck "beginRound: no round") Instr.beginRound; pure .skip : Sem Next).run P w = .ok .skip (w.put (E'.blk l) o') := by
            rw [hr0]
            simp only [Option.elim_some, Instr.beginRound, Instr.getLoop]
            simp only [Sem.run_bind, run_getO ho (by simp), Result.andThen_ok, Sem.run_pure, run_setO ho (by simp)]
            rfl
          refine ⟨w.put (E'.blk l) o', step_lone_go ?_, H.put hl (by simp [AO.ro]) ⟨rfl, hw⟩, H.kept_put hl (by simp [AO.ro]) _⟩
          rw [← e2]
          have hgoal : concF E' { fr with todo := k } = { frC with todo := k.map (concI E') } := by
            rw [← e1]; rfl
          simp only [hgoal]
          have hx : stepG P true { frame := frC, callers := cs.map (concF E') ++ base, status := .running, dying := none } w = stepG.apply P true frC (cs.map (concF E') ++ base) none (do frC.roundOf.elim (stuck "beginRound: no round") Instr.beginRound; pure .skip) w := by
            unfold stepG stepG.exec
            simp only [hmC, htC]
          rw [hx, apply_value hrun (.inr ⟨rfl, rfl⟩)]
          simp [Frame.finish, htC]
        · cases hs
      · cases hs
    · rename_i id ops k ht
      cases hs
      exact ctl_step hR _ (fun E' cs' => step_lone_go (by simp [stepG, stepG.exec, concF, hm, ht, concM, concI]))
    · rename_i id ops k ht
      obtain ⟨⟨ts, h'⟩, hd, hs1⟩ := R.bind_ok.1 hs
      cases hs1
      exact ⟨bot_fn (by rfl) cs, hdraw fr cs h id ops k ts h' hm ht hd D E K base frC csC w hR⟩
    · rename_i ops k ht
      cases hs
      exact ctl_step hR _ (fun E' cs' => step_lone_go (by simp [stepG, stepG.exec, concF, hm, ht, concM, concI]))
    · -- an operation
      rename_i ops i rest k ht
      split at hs
      · rename_i o ho
        obtain ⟨b, hb, hs1⟩ := R.bind_ok.1 hs
        cases b with
        | true => exact oper_sound ok hsub hext hs1 hR hm ht ho hb
        | false =>
          simp only [Bool.false_eq_true, if_false] at hs1
          obtain ⟨fr', hf, hs2⟩ := R.bind_ok.1 hs1
          cases hs2
          have hfc := finish_conc hf
          refine ⟨bot_fn (hfc E).2.2 cs, hR.ctl fr' ((hfc E).2.1 hR.wf.1) (fun E' cs' => step_lone_go ?_)⟩
          have hw := wanted_conc hR.wf.1 hb E'
          rw [← (hfc E').1]
          have h1 : (concF E' fr).todo = .inRegion ops (i :: rest) :: k.map (concI E') := by simp [concF, ht, concI]
          have h2 : (concF E' fr).mode = .run := by simp [concF, hm, concM]
          have h3 : Region.wanted o (yielded ops (concF E' fr).tmps) = false := hw
          generalize concF E' fr = g at *
          unfold stepG stepG.exec
          simp [h1, h2, ho, h3]
          rfl
      · cases hs
    · cases hs
  · rename_i hm
    exact unwind_sound ok hsub hext hs hm hR
end
end Go.Am

namespace Go.Am
open Go.RowKit
variable [Inhabited DrP]

section
variable {P : Program} {tab : Tab} (ok : TabOK P tab) (hext : ExtOK P tab) (hdraw : ∀ sub, SubOK P tab sub → DrawOK P tab sub)

def RunOK (P : Program) (tab : Tab) (m : AM) (outs : List (AV × AH)) : Prop :=
  ∀ (D : Nat → Prop) (E : Env) (K : KS) (base : List Frame) (frC : Frame) (csC : List Frame) (w : World), Rel D E K m base frC csC w →
    ∃ v h', (v, h') ∈ outs ∧ Ends P m.h.next (lone frC csC w) D E K v h' base (bot m.fr m.cs) w

include ok hext hdraw in
theorem run_sound : ∀ n, (∀ m outs, run tab n m = .ok outs → RunOK P tab m outs) ∧
    (∀ l outs, runs tab n l = .ok outs → ∀ m ∈ l, ∀ outs', (∀ x ∈ outs, x ∈ outs') → RunOK P tab m outs') := by
  intro n
  induction n with
  | zero =>
    refine ⟨fun m outs h => ?_, fun l outs h => ?_⟩
    · simp only [run] at h; cases h
    · cases l <;> (simp only [runs] at h; cases h)
  | succ n ih =>
    refine ⟨fun m outs h => ?_, fun l outs h => ?_⟩
    · simp only [run] at h
      let sub : FuncId → List AV → AH → R (List (AV × AH)) := fun f args h => match tab.fns.get f with
        | some fn => match fn.body with
          | some body => run tab n { fr := AFrame.enter fn f body args .normal, cs := [], h }
          | none => .no "run: body"
        | none => .no "run: function"
      have hsub : SubOK P tab sub := by
        intro f fn body args h outs hfn hb ho D E K w argsC hargs hdom cs
        simp only [sub, hfn, hb] at ho
        have hP := ok.fns f fn hfn
        have hR : Rel D E K { fr := AFrame.enter fn f body args .normal, cs := [], h } cs (Frame.enter P f argsC .normal) cs w := by
          refine ⟨fun E' he => ?_, hdom, enter_wf _ _ _ _ _, fun f hf => by cases hf⟩
          obtain ⟨h1, h2⟩ := hargs E' he
          refine ⟨h1, ?_, rfl⟩
          rw [← h2, enter_conc hP hb]
        exact ih.1 _ _ ho D E K cs _ cs w hR
      intro D E K base frC csC w hR
      change (match step tab sub m with
        | .no w => R.no w
        | .ok (.done v h) => .ok [(v, h)]
        | .ok (.next m') => run tab n m'
        | .ok (.alts l) => runs tab n l) = .ok outs at h
      cases hs : step tab sub m with
      | no w => rw [hs] at h; cases h
      | ok out =>
        rw [hs] at h
        have ho := step_sound ok hsub hext (hdraw sub hsub) hs hR
        cases out with
        | done v hh =>
          cases h
          exact ⟨v, hh, List.mem_cons_self, ho⟩
        | next m' =>
          obtain ⟨hb, fr', cs', w', E', D', s1, s2, s3, s4, s5, s6, s7⟩ := ho
          obtain ⟨v, h', hm, he⟩ := ih.1 m' outs h D' E' K base fr' cs' w' s2
          rw [hb] at he
          exact ⟨v, h', hm, Ends.trans s1 s3 s4 s5 s6 s7 he⟩
        | alts l =>
          obtain ⟨m', hml, hb, fr', cs', w', E', D', s1, s2, s3, s4, s5, s6, s7⟩ := ho
          obtain ⟨v, h', hm, he⟩ := ih.2 l outs h m' hml outs (fun _ hx => hx) D' E' K base fr' cs' w' s2
          rw [hb] at he
          exact ⟨v, h', hm, Ends.trans s1 s3 s4 s5 s6 s7 he⟩
    · intro m hm outs' hsub'
      cases l with
      | nil => cases hm
      | cons x l =>
        simp only [runs] at h
        obtain ⟨a, ha, h1⟩ := R.bind_ok.1 h
        obtain ⟨b, hb, h2⟩ := R.bind_ok.1 h1
        cases h2
        rcases List.mem_cons.1 hm with rfl | hm
        · intro D E K base frC csC w hR
          obtain ⟨v, h', hx, he⟩ := ih.1 m a ha D E K base frC csC w hR
          exact ⟨v, h', hsub' _ (List.mem_append_left _ hx), he⟩
        · exact ih.2 l b hb m hm outs' (fun x hx => hsub' x (List.mem_append_right _ hx))

include ok hext hdraw in
end
end Go.Am

namespace Go.Am
open Go.RowKit
variable [Inhabited DrP]

section
variable {tab : Tab} {ts ts' : T AV} {h : AH}

theorem evs_congr : ∀ (l : List Operand), (∀ x ∈ l, ev ts x = ev ts' x) → evs ts l = evs ts' l := by
  intro l
  induction l with
  | nil => intro _; rfl
  | cons x l ih =>
    intro hx
    simp only [evs, hx x List.mem_cons_self, ih (fun y hy => hx y (List.mem_cons_of_mem _ hy))]
theorem evParts_congr : ∀ (l : List (Nat × Operand)), (∀ x ∈ l.map (·.2), ev ts x = ev ts' x) → evParts ts l = evParts ts' l := by
  intro l
  induction l with
  | nil => intro _; rfl
  | cons x l ih =>
    intro hx
    simp only [evParts, hx x.2 (by simp), ih (fun y hy => hx y (by simp at hy ⊢; exact .inr hy))]

theorem pureOp_congr (o : Oper) (hx : ∀ x ∈ o.op.operands, ev ts x = ev ts' x) : pureOp tab ts h o = pureOp tab ts' h o := by
  obtain ⟨dst, op, type, pos, after, guard⟩ := o
  cases op <;> simp only [Op.operands] at hx <;> simp only [pureOp]
  case build t ps => rw [evParts_congr ps.toList fun x hm => hx x (by simpa using hm)]
  case buildSlice t n ps => rw [evParts_congr ps.toList fun x hm => hx x (by simpa using hm)]
  case makeFunc fn first captured =>
    rw [evs_congr first.toList fun x hm => hx x (by simp at hm; simp [hm]), evs_congr captured.toList fun x hm => hx x (by simp at hm; simp [hm])]
  case call c =>
    cases hc : c.callee with
    | builtin b =>
      simp only
      rw [evs_congr c.args.toList fun x hm => hx x (by simp [Call.operands, hc]; simpa using hm)]
    | value f => rfl
    | invoke r m => rfl
  case slice t x lo hi mx =>
    have h0 : ev ts x = ev ts' x := hx x (by simp)
    have h1 : ∀ y, lo = some y → ev ts y = ev ts' y := fun y e => hx y (by simp [e])
    have h2 : ∀ y, hi = some y → ev ts y = ev ts' y := fun y e => hx y (by simp [e])
    have h3 : ∀ y, mx = some y → ev ts y = ev ts' y := fun y e => hx y (by simp [e])
    rw [h0]
    cases lo <;> cases hi <;> cases mx <;> simp_all [sliceOp, optNat]
  case makeMap t r => cases r <;> rfl
  all_goals (first | rfl | (simp_all; done))

theorem effOp_congr {sub : FuncId → List AV → AH → R (List (AV × AH))} (o : Oper) (hx : ∀ x ∈ o.op.operands, ev ts x = ev ts' x) : effOp tab sub ts h o = effOp tab sub ts' h o := by
  have hp := pureOp_congr (tab := tab) (h := h) o hx
  unfold effOp
  cases hop : o.op
  case call c =>
    rw [hop] at hx
    simp only
    cases hc : c.callee with
    | builtin b => cases b <;> simp only [hp]
    | value f =>
      have h1 : ev ts f = ev ts' f := hx f (by simp [Op.operands, Call.operands, hc])
      have h2 : evs ts c.args.toList = evs ts' c.args.toList := evs_congr c.args.toList fun x hm => hx x (by simp [Op.operands, Call.operands, hc]; right; simpa using hm)
      simp only [h1, h2]
    | invoke r m => simp only [hp]
  all_goals simp only [hp]

theorem looks_spec {ops : Array Oper} {o : Oper} (h : ∀ t ∈ looks ops o, ts.get t = ts'.get t) : (∀ x ∈ o.op.operands, ev ts x = ev ts' x) ∧ wanted ops o ts = wanted ops o ts' := by
  constructor
  · intro x hx
    cases x with
    | tmp t =>
      have := h t (List.mem_append_left _ (List.mem_filterMap.2 ⟨.tmp t, by simpa using hx, rfl⟩))
      simp only [ev, this]
    | const v => rfl
    | func f => rfl
    | global g => rfl
  · unfold wanted
    cases hg : o.guard with
    | none => rfl
    | some gw =>
      obtain ⟨g, want⟩ := gw
      simp only
      cases hd : (ops[g]?).bind (·.dst) with
      | none => rfl
      | some d =>
        have := h d (List.mem_append_right _ (by simp [hg, hd]))
        simp only [Option.bind_some, this]
end
end Go.Am

namespace Go.Am
open Go.RowKit
variable [Inhabited DrP]

theorem hideAll_next : ∀ (l : List (Nat × Nat)) (h : AH), (hideAll h l).next = h.next := by
  intro l
  induction l with
  | nil => intro h; rfl
  | cons x l ih => intro h; simp only [hideAll, ih, AH.next_kill]
theorem hideAll_get : ∀ (l : List (Nat × Nat)) (h : AH) (i : Nat), (hideAll h l).get i = if ∃ x ∈ l, x.2 = i then none else h.get i := by
  intro l
  induction l with
  | nil => intro h i; simp [hideAll]
  | cons x l ih =>
    intro h i
    simp only [hideAll, ih, AH.get_kill]
    by_cases h1 : ∃ y ∈ l, y.2 = i
    · rw [if_pos h1, if_pos (by obtain ⟨y, hy, e⟩ := h1; exact ⟨y, List.mem_cons_of_mem _ hy, e⟩)]
    · rw [if_neg h1]
      by_cases h2 : i = x.2
      · rw [if_pos h2, if_pos ⟨x, List.mem_cons_self, h2.symm⟩]
      · rw [if_neg h2, if_neg]
        rintro ⟨y, hy, e⟩
        rcases List.mem_cons.1 hy with rfl | hy
        · exact h2 e.symm
        · exact h1 ⟨y, hy, e⟩
theorem restore_next : ∀ (l : List (Nat × Nat)) (h h0 : AH), (restore h h0 l).next = h.next := by
  intro l
  induction l with
  | nil => intro h h0; rfl
  | cons x l ih => intro h h0; simp only [restore, ih]
theorem restore_get : ∀ (l : List (Nat × Nat)) (h h0 : AH) (i : Nat), (restore h h0 l).get i = if ∃ x ∈ l, x.2 = i then h0.get i else h.get i := by
  intro l
  induction l with
  | nil => intro h h0 i; simp [restore]
  | cons x l ih =>
    intro h h0 i
    simp only [restore, ih]
    have hg : ({ h with t := h.t.set x.2 (h0.get x.2) } : AH).get i = if i = x.2 then h0.get x.2 else h.get i := T.get_set _ _ _ _
    rw [hg]
    by_cases h1 : ∃ y ∈ l, y.2 = i
    · rw [if_pos h1, if_pos (by obtain ⟨y, hy, e⟩ := h1; exact ⟨y, List.mem_cons_of_mem _ hy, e⟩)]
    · rw [if_neg h1]
      by_cases h2 : i = x.2
      · rw [if_pos h2, if_pos ⟨x, List.mem_cons_self, h2.symm⟩, h2]
      · rw [if_neg h2, if_neg]
        rintro ⟨y, hy, e⟩
        rcases List.mem_cons.1 hy with rfl | hy
        · exact h2 e.symm
        · exact h1 ⟨y, hy, e⟩

section
variable {E : Env} {h h0 h1 h2 : AH} {K : KS} {w w' : World}

def Rest (E : Env) (h h0 : AH) (K : KS) : KS := ⟨fun b => K b ∨ ∃ i o, h.get i = some o ∧ h0.get i = none ∧ b = E.blk i, K.b⟩

theorem HOK.part (H : HOK E h K w) (hs : ∀ i o, h0.get i = some o → h.get i = some o) (hd : ∀ i o, h0.get i = some o → i < h0.next) : HOK E h0 (Rest E h h0 K) w := by
  refine ⟨fun i o hi => H.obj i o (hs i o hi), ?_, fun i j oi oj hi hj => H.inj i j oi oj (hs i oi hi) (hs j oj hj), hd, ?_, fun i o hi => H.im i o (hs i o hi), fun b hb => .inl (H.k0 b hb)⟩
  · rintro i o hi hr (hk | ⟨j, oj, hj, hn, e⟩)
    · exact H.nk i o (hs i o hi) hr hk
    · have := H.inj i j o oj (hs i o hi) hj hr e
      subst this
      rw [hi] at hn; cases hn
  · rintro b (hk | ⟨j, oj, hj, hn, e⟩)
    · exact H.kb b hk
    · subst e; exact H.lt hj

theorem HOK.join (H : HOK E h K w) (H1 : HOK E h1 (Rest E h h0 K) w') (hk : Kept (Rest E h h0 K) w w')
    (hg : ∀ i o, h2.get i = some o → h1.get i = some o ∨ (h.get i = some o ∧ h0.get i = none)) (hd : ∀ i o, h2.get i = some o → i < h2.next) : HOK E h2 K w' := by
  refine ⟨?_, ?_, ?_, hd, ?_, ?_, H.k0⟩
  · intro i o hi
    rcases hg i o hi with g | ⟨g, n⟩
    · exact H1.obj i o g
    · obtain ⟨c, hc, ho⟩ := H.obj i o g
      refine ⟨c, ?_, ho⟩
      rw [← hc]
      exact hk.block _ (.inr ⟨i, o, g, n, rfl⟩)
  · intro i o hi hr hK
    rcases hg i o hi with g | ⟨g, n⟩
    · exact H1.nk i o g hr (.inl hK)
    · exact H.nk i o g hr hK
  · intro i j oi oj hi hj hr e
    rcases hg i oi hi with g | ⟨g, n⟩ <;> rcases hg j oj hj with g' | ⟨g', n'⟩
    · exact H1.inj i j oi oj g g' hr e
    · exact absurd (.inr ⟨j, oj, g', n', e⟩) (H1.nk i oi g hr)
    · by_cases hrj : oj.ro
      · exact absurd (H.k0 _ (H1.im j oj g' hrj)) (by rw [← e]; exact H.nk i oi g hr)
      · exact absurd (.inr ⟨i, oi, g, n, e.symm⟩) (H1.nk j oj g' hrj)
    · exact H.inj i j oi oj g g' hr e
  · intro b hb
    exact H1.kb b (.inl hb)
  · intro i o hi hr
    rcases hg i o hi with g | ⟨g, n⟩
    · exact H1.im i o g hr
    · exact H.im i o g hr
theorem Kept.part (hk : Kept (Rest E h h0 K) w w') : Kept K w w' :=
  ⟨hk.os, hk.tape, hk.output, hk.size, fun b hb => hk.block b (.inl hb), hk.drawn⟩
end
end Go.Am

namespace Go.Am
open Go.RowKit
variable [Inhabited DrP]

section
variable {P : Program} {tab : Tab} (ok : TabOK P tab) {sub : FuncId → List AV → AH → R (List (AV × AH))} (hsub : SubOK P tab sub) (hext : ExtOK P tab)
variable {D : Nat → Prop} {E : Env} {K : KS} {base : List Frame} {frC : Frame} {csC : List Frame} {w : World}

def GetsN (P : Program) (M0 : Machine) (D N : Nat → Prop) (E : Env) (K : KS) (m' : AM) (base : List Frame) (w : World) : Prop :=
  ∃ fr' cs' w' E', Steps P M0 (lone fr' cs' w') ∧ Rel (fun i => D i ∨ N i) E' K m' base fr' cs' w' ∧ Agree D E E' ∧ Kept K w w'

open Classical in
theorem Rel.oneN {m m' : AM} (hR : Rel D E K m base frC csC w) (M0 : Machine) (N : Nat → Prop) (f : Nat → Nat × Nat) (hN : ∀ i, N i → ¬ D i) (hlt : ∀ i, D i ∨ N i → i < m'.h.next) (hwf : m'.fr.WF ∧ ∀ f ∈ m'.cs, f.WF)
    (h1 : ∀ E', Agree D E E' → HOK E' m.h K w → concF E' m.fr = frC → m.cs.map (concF E') ++ base = csC → (∀ i, N i → E'.blk i = (f i).1 ∧ E'.cap i = (f i).2) → One P M0 E' K m' base w) :
    GetsN P M0 D N E K m' base w := by
  let E1 : Env := ⟨fun i => if N i then (f i).1 else E.blk i, fun i => if N i then (f i).2 else E.cap i⟩
  have ha : Agree D E E1 := by
    intro i hi
    have : ¬ N i := fun hn => hN i hn hi
    simp [E1, this]
  have hE : ∀ i, N i → E1.blk i = (f i).1 ∧ E1.cap i = (f i).2 := by
    intro i hi
    simp [E1, hi]
  have hE1 : ∀ E', Agree (fun i => D i ∨ N i) E1 E' → One P M0 E' K m' base w := by
    intro E' he
    have hd : Agree D E E' := ha.trans he (fun i hi => .inl hi)
    obtain ⟨g1, g2, g3⟩ := hR.all E' hd
    refine h1 E' hd g1 g2 g3 (fun i hi => ?_)
    have h2 := he i (.inr hi)
    have h3 := hE i hi
    exact ⟨h2.1.trans h3.1, h2.2.trans h3.2⟩
  obtain ⟨w', s1, s2, s3⟩ := hE1 E1 (Agree.refl _ _)
  refine ⟨_, _, w', E1, .one s1, ⟨?_, hlt, hwf⟩, ha, s3⟩
  intro E' he
  obtain ⟨w2, t1, t2, t3⟩ := hE1 E' he
  rw [s1] at t1
  obtain ⟨e1, e2, e3⟩ := lone_inj (by simpa using t1)
  subst e3
  exact ⟨t2, e1.symm, e2.symm⟩

variable {fr fr' : AFrame} {cs : List AFrame} {h h0 h1 h2 : AH} {ops : Array Oper} {i : Nat} {rest : List Nat} {k : List AItem} {o : Oper} {v : AV}

theorem Rel.live (hR : Rel D E K { fr, cs, h } base frC csC w) {i : Nat} {ob : AO} (hi : h.get i = some ob) : D i := by
  by_cases hd : D i
  · exact hd
  · exfalso
    have ha : Agree D E ⟨fun j => if j = i then w.heap.size else E.blk j, E.cap⟩ := by
      intro j hj
      have : ¬ j = i := fun e => hd (e ▸ hj)
      simp [this]
    have := (hR.all _ ha).1.lt hi
    simp at this

include ok in
theorem frame_step (hR : Rel D E K { fr, cs, h } base frC csC w) (a : AtOp frC ops i rest o) (hp : pureOp tab fr.tmps h0 o = .ok (v, h1)) (hf : fr.finish v = .ok fr')
    (hs : ∀ i o, h0.get i = some o → h.get i = some o) (hd0 : ∀ i o, h0.get i = some o → i < h0.next)
    (hg : ∀ i o, h2.get i = some o → h1.get i = some o ∨ (h.get i = some o ∧ h0.get i = none)) (hd2 : ∀ i o, h2.get i = some o → i < h2.next ∨ (h1.get i = some o ∧ h1.next ≤ h2.next))
    (N : Nat → Prop) (hN1 : h0.next < h1.next → N h0.next) (hN : ∀ i, N i → i = h0.next ∧ ¬ D i) (hlt : ∀ i, D i ∨ N i → i < h2.next) :
    GetsN P (lone frC csC w) D N E K { fr := fr', cs, h := h2 } base w := by
  obtain ⟨f, hgood⟩ := pureOp_sound ok hp w frC.eval
  have hfc := finish_conc hf
  have hρ : ∀ E', Agree D E E' → ∀ x u, ev fr.tmps x = .ok u → frC.eval x = conc E' u := by
    intro E' he x u hx
    rw [← (hR.all E' he).2.1]
    exact ev_conc hR.wf.1 E' hx
  refine hR.oneN (m' := { fr := fr', cs, h := h2 }) _ N (fun _ => f) (fun i hi => (hN i hi).2) hlt ⟨(hfc E).2.1 hR.wf.1, hR.wf.2⟩ ?_
  intro E' he H e1 e2 hE'
  obtain ⟨_, r, w', s1, s2, s3, s4⟩ := hgood E' _ (H.part hs hd0) (hρ E' he) (fun hlt => hE' h0.next (hN1 hlt))
  refine ⟨w', ?_, H.join s3 s4 hg (fun i o hi => (hd2 i o hi).elim id (fun h => Nat.lt_of_lt_of_le (s3.dom i o h.1) h.2)), s4.part⟩
  rw [a.value (.inr (pureOp_nd hp)) csC s1 s2, ← e1, ← e2, (hfc E').1]

theorem GetsN.gets {M0 : Machine} {N : Nat → Prop} {m' : AM} {lo : Nat} (hg : GetsN P M0 D N E K m' base w) (hlo : lo ≤ m'.h.next) (hN : ∀ i, N i → lo ≤ i) : Gets P lo M0 D E K m' base w := by
  obtain ⟨fr', cs', w', E', h1, h2, h3, h4⟩ := hg
  exact ⟨fr', cs', w', E', _, h1, h2, h3, fun i hi => .inl hi, h4, hlo, fun i hi => hi.elim .inl (fun h => .inr (hN i h))⟩

theorem Rel.restEq (hR : Rel D E K { fr, cs, h } base frC csC w) {E' : Env} (he : Agree D E E') : Rest E' h h0 K = Rest E h h0 K := by
  unfold Rest
  congr 1
  funext b
  apply propext
  constructor
  · rintro (hk | ⟨i, o, h1, h2, e⟩)
    · exact .inl hk
    · exact .inr ⟨i, o, h1, h2, by rw [e, (he i (hR.live h1)).1]⟩
  · rintro (hk | ⟨i, o, h1, h2, e⟩)
    · exact .inl hk
    · exact .inr ⟨i, o, h1, h2, by rw [e, (he i (hR.live h1)).1]⟩

include ok hsub hext in
theorem eff_step (hR : Rel D E K { fr, cs, h } base frC csC w) (a : AtOp frC ops i rest o) (hp : effOp tab sub fr.tmps h0 o = .ok (v, h1)) (hf : fr.finish v = .ok fr')
    (hs : ∀ i o, h0.get i = some o → h.get i = some o) (hd0 : ∀ i o, h0.get i = some o → i < h0.next)
    (hg : ∀ i o, h2.get i = some o → h1.get i = some o ∨ (h.get i = some o ∧ h0.get i = none)) (hd2 : ∀ i o, h2.get i = some o → i < h2.next ∨ (h1.get i = some o ∧ h1.next ≤ h2.next))
    (hle : h0.next ≤ h1.next) (hnx : h2.next = h1.next) (hltD : ∀ i, D i → i < h0.next) :
    Gets P h0.next (lone frC csC w) D E K { fr := fr', cs, h := h2 } base w := by
  have hpure : pureOp tab fr.tmps h0 o = .ok (v, h1) → Gets P h0.next (lone frC csC w) D E K { fr := fr', cs, h := h2 } base w := by
    intro hp
    refine GetsN.gets (frame_step ok hR a hp hf hs hd0 hg hd2 (fun i => i = h0.next ∧ h0.next < h1.next) (fun h => ⟨rfl, h⟩) (fun i hi => ⟨hi.1, fun hd => by have := hltD i hd; omega⟩) ?_) (by simp only; omega) (fun i hi => by omega)
    rintro i (hi | hi)
    · have := hltD i hi; omega
    · omega
  have hfc := finish_conc hf
  have hρ : ∀ E', Agree D E E' → ∀ x u, ev fr.tmps x = .ok u → frC.eval x = conc E' u := by
    intro E' he x u hx
    rw [← (hR.all E' he).2.1]
    exact ev_conc hR.wf.1 E' hx
  unfold effOp at hp
  split at hp
  · rename_i c hc
    split at hp
    · rename_i f hcf
      obtain ⟨args, hargs, hp1⟩ := R.bind_ok.1 hp
      obtain ⟨u, hu, hp2⟩ := R.bind_ok.1 hp1
      obtain ⟨d, hd, hp3⟩ := R.bind_ok.1 hp2
      clear hp hp1 hp2
      have hres : ∀ E', Agree D E E' → Deferred.ofValue (frC.eval f) (c.args.map frC.eval) = pure (concD E' d) := by
        intro E' he
        rw [← resolve_conc hd E', hρ E' he _ _ hu, ← evs_run (hρ E' he) _ _ hargs]
        congr 1
        simp [← Array.toList_inj]
      have hrob := concD_robust hres
      have hnd : ∀ c', o.op ≠ .defer c' := by rw [hc]; intro c' e; cases e
      have hctx : Ctx P (lone frC csC w) frC csC w .normal (concD E d) := ctx_apply a (.inr hnd) (by simp [execOp, hc, resolve, hcf, hres E (Agree.refl _ _)])
      split at hp3
      · rename_i g captured htg
        have hinv : ∀ E', Agree D E E' → invoke (concD E d).target (concD E d).args = callFunc g (concL E' (d.args ++ captured)).toArray := by
          intro E' he
          rw [← hrob E' he]
          simp only [concD, htg, concT, invoke, concL_append]
          simp
        split at hp3
        · rename_i fn hfn
          have hP := ok.fns g fn hfn
          have hn : fn.name ≠ "runtime.NumGoroutine" := by simpa using ok.nng g fn hfn
          split at hp3
          · rename_i body hb
            obtain ⟨outs, ho, hp4⟩ := R.bind_ok.1 hp3
            split at hp4
            · rename_i v' h' 
              cases hp4
              have hrun : ∀ a, (callFunc g a).run P w = .ok (.enter g a) w := by
                intro a
                simp [callFunc, hP, hn, hb]
              have hstep : ∀ E', Agree D E E' → Go.step P (lone frC csC w) = .next (lone (Frame.enter P g (concL E' (d.args ++ captured)).toArray .normal) (frC :: csC) w) := fun E' he =>
                hctx.enter _ _ _ (by rw [hinv E' he, hrun])
              have hargsC : ∀ E', Agree D E E' → (concL E' (d.args ++ captured)).toArray = (concL E (d.args ++ captured)).toArray := by
                intro E' he
                have h4 := hrun (concL E' (d.args ++ captured)).toArray
                rw [← hinv E' he, hinv E (Agree.refl _ _), hrun] at h4
                simpa using h4.symm
              obtain ⟨v2, h2', hmem, he2⟩ := hsub g fn body _ h0 _ hfn hb ho D E (Rest E h h0 K) w (concL E (d.args ++ captured)).toArray
                (fun E' he => ⟨by rw [← hR.restEq he]; exact (hR.all E' he).1.part hs hd0, hargsC E' he⟩) hltD (frC :: csC)
              rcases List.mem_cons.1 hmem with e | hmem
              · cases e
                obtain ⟨fr1, w', vC, E', D', s1, s2, s3, s4, s5, s6, s7, s8, s9, s10⟩ := he2
                refine ⟨frC.finish vC, csC, w', E', D', ?_, ⟨?_, ?_, ?_⟩, s5, s6, s8.part, by simp only; omega, s10⟩
                · exact (Steps.head (hstep E (Agree.refl _ _)) s1).trans (.one (step_leave_returned s3))
                · intro E'' he'
                  obtain ⟨g1, g2⟩ := s4 E'' he'
                  have hag := s5.trans he' s6
                  obtain ⟨k1, k2, k3⟩ := hR.all E'' hag
                  refine ⟨k1.join (by rw [hR.restEq hag]; exact g1) (by rw [hR.restEq hag]; exact s8) hg (fun i o hi => (hd2 i o hi).elim id (fun h => Nat.lt_of_lt_of_le (g1.dom i o h.1) h.2)), ?_, k3⟩
                  rw [← (hfc E'').1, ← g2, ← k2]
                · intro i hi; have := s7 i hi; simp only; omega
                · exact ⟨(hfc E).2.1 hR.wf.1, hR.wf.2⟩
              · cases hmem
            · cases hp4
          · rename_i hb
            obtain ⟨gg, hgg⟩ := hext g fn _ h0 v h1 hfn hb hp3 w
            refine GetsN.gets (N := fun i => i = h0.next ∧ h0.next < h1.next) (hR.oneN (m' := { fr := fr', cs, h := h2 }) _ _ (fun _ => gg) (fun i hi hd => by have := hltD i hd; omega) ?_ ⟨(hfc E).2.1 hR.wf.1, hR.wf.2⟩ ?_) (by simp only; omega) (fun i hi => by omega)
            · rintro i (hi | hi)
              · have := hltD i hi; simp only; omega
              · simp only; omega
            · intro E' he H e1 e2 hE'
              obtain ⟨_, w', s1, s2, s3⟩ := hgg E' _ (H.part hs hd0) (fun hlt => hE' h0.next ⟨rfl, hlt⟩)
              refine ⟨w', ?_, H.join s2 s3 hg (fun i o hi => (hd2 i o hi).elim id (fun h => Nat.lt_of_lt_of_le (s2.dom i o h.1) h.2)), s3.part⟩
              rw [hctx.value (conc E' v) w' (by rw [hinv E' he, s1]) rfl, ← e1, ← e2, (hfc E').1]
        · cases hp3
      · cases hp3
    · cases hp
    · exact hpure hp
  · cases hp
  · cases hp
  · cases hp
  · cases hp
  · exact hpure hp
end
end Go.Am

namespace Go.Am
open Go.RowKit
variable [Inhabited DrP]

section
variable {tab : Tab} {ts : T AV} {h h' : AH} {v : AV}

theorem sliceOp_same {t : TypeId} {x : AV} {lo hi mx : Option Operand} (hp : sliceOp tab ts h t x lo hi mx = .ok (v, h')) : h' = h := by
  unfold sliceOp at hp
  simp only [cond_eq_ite] at hp
  repeat' (first
    | (cases hp; done)
    | (cases hp; rfl)
    | (obtain ⟨_, _, hp⟩ := R.bind_ok.1 hp)
    | split at hp)

theorem builtin_same {b : Builtin} {l : List AV} {at_ : Array TypeId} (hb : b = .len ∨ b = .cap ∨ b = .min ∨ b = .max) (hp : builtin tab b at_ l h = .ok (v, h')) : h' = h := by
  unfold builtin at hp
  rcases hb with rfl | rfl | rfl | rfl
  all_goals (repeat' (first
    | contradiction
    | (cases hp; done)
    | (cases hp; rfl)
    | (obtain ⟨_, _, hp⟩ := R.bind_ok.1 hp)
    | split at hp))

theorem clsConv {src dst : TypeId} (h : (match tab.und.get src, tab.und.get dst with
    | some (.int _), some (.int _) => Cls.pure
    | _, _ => Cls.eff) ≠ Cls.eff) : ∃ k j, tab.und.get src = some (.int k) ∧ tab.und.get dst = some (.int j) := by
  split at h
  · rename_i k j h1 h2; exact ⟨k, j, h1, h2⟩
  · exact absurd rfl h
theorem clsConv2 {src dst : TypeId} (h : (match tab.und.get src, tab.und.get dst with
    | some (.int _), some (.int _) => Cls.pure
    | _, _ => Cls.eff) = Cls.pure ∨ (match tab.und.get src, tab.und.get dst with
    | some (.int _), some (.int _) => Cls.pure
    | _, _ => Cls.eff) = Cls.read) : ∃ k j, tab.und.get src = some (.int k) ∧ tab.und.get dst = some (.int j) := by
  apply clsConv
  rcases h with h | h <;> rw [h] <;> simp
theorem clsConv3 {src dst : TypeId} (h : (match tab.und.get src, tab.und.get dst with
    | some (.int _), some (.int _) => Cls.pure
    | _, _ => Cls.eff) = Cls.alloc) : False := by
  split at h <;> cases h
theorem convNum {src dst : TypeId} {k j : IntKind} (h1 : tab.und.get src = some (.int k)) (h2 : tab.und.get dst = some (.int j)) {x : AV} (hp : convertAll tab h src dst x = .ok (v, h')) : ∃ i n, x = .int i n ∧ v = .int j (j.wrap n) ∧ h' = h := by
  have e1 : und tab src = .ok (.int k) := R.of_ok.2 h1
  have e2 : und tab dst = .ok (.int j) := R.of_ok.2 h2
  unfold convertAll at hp
  obtain ⟨d, hd, hp⟩ := R.bind_ok.1 hp
  rw [e2] at hd
  cases hd
  simp only at hp
  unfold convert at hp
  obtain ⟨d, hd, hp⟩ := R.bind_ok.1 hp
  rw [e1] at hd
  cases hd
  obtain ⟨d, hd, hp⟩ := R.bind_ok.1 hp
  rw [e2] at hd
  cases hd
  cases x <;> simp only at hp <;> first | (cases hp; exact ⟨_, _, rfl, rfl, rfl⟩) | (cases hp; done)
theorem convNum_mk {src dst : TypeId} {k j : IntKind} (h1 : tab.und.get src = some (.int k)) (h2 : tab.und.get dst = some (.int j)) (i : IntKind) (n : Int) (h : AH) : convertAll tab h src dst (.int i n) = .ok (.int j (j.wrap n), h) := by
  have e1 : und tab src = .ok (.int k) := R.of_ok.2 h1
  have e2 : und tab dst = .ok (.int j) := R.of_ok.2 h2
  unfold convertAll
  rw [e2]
  show convert tab h src dst (.int i n) = _
  unfold convert
  rw [e1, e2]
  rfl
theorem pureOp_same {o : Oper} (hc : cls tab o ≠ .eff ∧ cls tab o ≠ .alloc) (hp : pureOp tab ts h o = .ok (v, h')) : h' = h := by
  obtain ⟨dst, op, type, pos, after, guard⟩ := o
  unfold pureOp at hp
  cases op <;> simp only [cls] at hc <;> simp only at hp
  case slice t x lo hi mx =>
    obtain ⟨a, ha, hp1⟩ := R.bind_ok.1 hp
    exact sliceOp_same hp1
  case call c =>
    cases hcc : c.callee with
    | builtin b =>
      rw [hcc] at hp hc
      simp only at hp hc
      obtain ⟨l, hl, hp1⟩ := R.bind_ok.1 hp
      cases b <;> first | exact builtin_same (.inl rfl) hp1 | exact builtin_same (.inr (.inl rfl)) hp1 | exact builtin_same (.inr (.inr (.inl rfl))) hp1 | exact builtin_same (.inr (.inr (.inr rfl))) hp1 | exact absurd rfl hc.1
    | value f => rw [hcc] at hp; cases hp
    | invoke r m => rw [hcc] at hp; cases hp
  case convert src dst x =>
    obtain ⟨k, j, h1, h2⟩ := clsConv hc.1
    obtain ⟨_, _, hp1⟩ := R.bind_ok.1 hp
    obtain ⟨_, _, _, _, rfl⟩ := convNum h1 h2 hp1
    rfl
  all_goals first
    | exact absurd rfl hc.1
    | exact absurd rfl hc.2
    | (repeat' (first
        | (cases hp; done)
        | (cases hp; rfl)
        | (obtain ⟨_, _, hp⟩ := R.bind_ok.1 hp)
        | split at hp))
end
end Go.Am

namespace Go.Am
open Go.RowKit
variable [Inhabited DrP]

def Kind (tab : Tab) (ops : Array Oper) (s : DS) (j : Nat) (o : Oper) (tj : T AV) (v : AV) : Prop :=
  (wanted ops o tj = .ok false ∧ v = .tup [] ∧ ∀ x ∈ s.allocs, x.1 ≠ j) ∨
  (wanted ops o tj = .ok true ∧
    (((∃ h1, pureOp tab tj { t := .e, next := 0 } o = .ok (v, h1) ∧ h1.next = 0) ∧ ∀ x ∈ s.allocs, x.1 ≠ j) ∨
     (∃ b h1 ob, ((j, b) ∈ s.allocs ∧ ∀ x ∈ s.allocs, x.1 = j → x.2 = b) ∧ pureOp tab tj { t := .e, next := b } o = .ok (v, h1) ∧ h1.next = b + 1 ∧ h1.get b = some ob ∧ s.h.get b = some ob) ∨
     (((j, tj, v) ∈ s.reads ∧ ∀ x ∈ s.allocs, x.1 ≠ j) ∧ cls tab o ≠ .eff ∧ cls tab o ≠ .alloc ∧ ∃ hr, pureOp tab tj hr o = .ok (v, hr) ∧ ∀ b ob, hr.get b = some ob → b < hr.next ∧ s.h.get b = some ob ∧ ∀ x ∈ s.allocs, x.2 ≠ b)))
def Look (ops : Array Oper) (ts0 : T AV) (s : DS) (j : Nat) (o : Oper) (tj : T AV) : Prop :=
  ∀ t ∈ looks ops o, (∃ i oi, ops[i]? = some oi ∧ oi.dst = some t ∧ i ∈ preOf o ∧ (s.anc.get i).isSome ∧ tj.get t = s.ts.get t) ∨
    (tj.get t = ts0.get t ∧ ∀ i oi a, ops[i]? = some oi → oi.dst = some t → s.anc.get i = some a → i = j ∨ j ∈ a)
def Pend (tab : Tab) (ops : Array Oper) (nt : Nat) (ts0 : T AV) (s : DS) (j : Nat) : Prop :=
  ∃ o tj v, ops[j]? = some o ∧ (∀ d, o.dst = some d → d < nt → s.ts.get d = some v) ∧ Look ops ts0 s j o tj ∧ Kind tab ops s j o tj v

structure DInv (tab : Tab) (ops : Array Oper) (nt : Nat) (ts0 : T AV) (lo : Nat) (s : DS) (X : Nat → Prop) : Prop where
  cx : ∀ j, X j → (s.anc.get j).isSome
  xdn : ∀ j a, X j → s.anc.get j = some a → ∀ i ∈ a, X i
  op : ∀ j, (s.anc.get j).isSome → ∃ o, ops[j]? = some o
  shape : ∀ j a o, s.anc.get j = some a → ops[j]? = some o → (∀ i ∈ preOf o, i ∈ a ∧ (s.anc.get i).isSome) ∧ ∀ i ∈ a, i ∈ preOf o ∨ ∃ p ∈ preOf o, ∃ ap, s.anc.get p = some ap ∧ i ∈ ap
  uniq : ∀ i j oi oj d, (s.anc.get i).isSome → ops[i]? = some oi → ops[j]? = some oj → oi.dst = some d → oj.dst = some d → i = j
  tsC : ∀ t, (∀ j o, (s.anc.get j).isSome → ops[j]? = some o → o.dst ≠ some t) → s.ts.get t = ts0.get t
  pend : ∀ j, (s.anc.get j).isSome → ¬ X j → Pend tab ops nt ts0 s j
  al : ∀ x ∈ s.allocs, x.2 < s.h.next ∧ (s.anc.get x.1).isSome ∧ lo ≤ x.2
  nx : lo ≤ s.h.next
  tsw : ∀ t, nt ≤ t → s.ts.get t = none
  alu : ∀ x ∈ s.allocs, ∀ y ∈ s.allocs, x.2 = y.2 → x = y
  hd : ∀ i o, s.h.get i = some o → i < s.h.next

theorem memN_iff {i : Nat} {l : List Nat} : memN i l = true ↔ i ∈ l := by
  unfold memN
  rw [List.any_eq_true]
  constructor
  · rintro ⟨x, hx, hb⟩
    rw [Nat.eq_of_beq_eq_true hb]; exact hx
  · intro h
    exact ⟨i, h, Nat.beq_refl i⟩

theorem writersIn_ok {anc : T (List Nat)} {t : Tmp} {pre : List Nat} : ∀ (l : List Oper) (k : Nat), writersIn anc t pre k l = true → ∀ j o, l[j]? = some o → o.dst = some t → (anc.get (k + j)).isSome → k + j ∈ pre := by
  intro l
  induction l with
  | nil => intro k _ j o hj; simp at hj
  | cons x l ih =>
    intro k h j o hj hd hc
    simp only [writersIn, Bool.and_eq_true] at h
    cases j with
    | zero =>
      simp only [List.getElem?_cons_zero, Option.some.injEq] at hj
      subst hj
      have h1 := h.1
      rw [hd] at h1
      simp only [Nat.add_zero] at hc ⊢
      have : Nat.beq t t = true := Nat.beq_refl t
      simp only [this, hc, Bool.and_self, cond_true] at h1
      exact memN_iff.1 h1
    | succ j =>
      have := ih (k + 1) h.2 j o (by simpa using hj) hd (by rw [show k + 1 + j = k + (j + 1) from by omega]; exact hc)
      rw [show k + 1 + j = k + (j + 1) from by omega] at this
      exact this
theorem dstFree_ok {anc : T (List Nat)} {ops : Array Oper} {i : Nat} {a : Tmp} {an : List Nat} : ∀ (l : List Oper) (k : Nat), dstFree anc ops i a an k l = true → ∀ j o, l[j]? = some o →
    (o.dst = some a → i = k + j) ∧ ((anc.get (k + j)).isSome → a ∈ looks ops o → k + j ∈ an) := by
  intro l
  induction l with
  | nil => intro k _ j o hj; simp at hj
  | cons x l ih =>
    intro k h j o hj
    simp only [dstFree, Bool.and_eq_true] at h
    obtain ⟨⟨h1, h2⟩, h3⟩ := h
    cases j with
    | zero =>
      simp only [List.getElem?_cons_zero, Option.some.injEq] at hj
      subst hj
      simp only [Nat.add_zero]
      constructor
      · intro hd
        rw [hd] at h1
        have : Nat.beq a a = true := Nat.beq_refl a
        simp only [this, cond_true] at h1
        exact Nat.eq_of_beq_eq_true h1
      · intro hc hl
        simp only [hc, cond_true, Bool.or_eq_true, Bool.not_eq_true'] at h2
        rcases h2 with h2 | h2
        · exact memN_iff.1 h2
        · rw [memN_iff.2 hl] at h2; cases h2
    | succ j =>
      have := ih (k + 1) h3 j o (by simpa using hj)
      rw [show k + 1 + j = k + (j + 1) from by omega] at this
      exact this

theorem opOk_ok {anc : T (List Nat)} {ops : Array Oper} {i : Nat} {o : Oper} (h : opOk anc ops i o = true) :
    (∀ t ∈ looks ops o, ∀ j oj, ops[j]? = some oj → oj.dst = some t → (anc.get j).isSome → j ∈ preOf o) ∧
    (∀ d, o.dst = some d → ∀ j oj, ops[j]? = some oj → (oj.dst = some d → i = j) ∧ ((anc.get j).isSome → d ∈ looks ops oj → j ∈ ancOf anc o)) := by
  unfold opOk at h
  simp only [Bool.and_eq_true, List.all_eq_true] at h
  constructor
  · intro t ht j oj hj hd hc
    have := writersIn_ok ops.toList 0 (h.1 t ht) j oj (by simpa using hj) hd (by simpa using hc)
    simpa using this
  · intro d hd j oj hj
    have h2 := h.2
    rw [hd] at h2
    have := dstFree_ok ops.toList 0 h2 j oj (by simpa using hj)
    simpa using this
theorem isReady_ok {anc : T (List Nat)} {i : Nat} {o : Oper} (h : isReady anc i o = true) : anc.get i = none ∧ ∀ j ∈ preOf o, (anc.get j).isSome := by
  unfold isReady at h
  simp only [Bool.and_eq_true, List.all_eq_true] at h
  exact ⟨by simpa using h.1, h.2⟩
end Go.Am

namespace Go.Am
open Go.RowKit
variable [Inhabited DrP]

theorem drawPut_get (nt : Nat) (ts : T AV) (o : Oper) (v : AV) (t : Nat) : (drawPut nt ts o v).get t = if o.dst = some t ∧ t < nt then some v else ts.get t := by
  unfold drawPut
  cases hd : o.dst with
  | none => simp
  | some d =>
    have := putT_get ts nt d v t
    unfold putT at this
    simp only [this, Option.some.injEq]
    by_cases h1 : t = d
    · subst h1; simp
    · have h2 : ¬ d = t := fun e => h1 e.symm
      simp [h1, h2]
theorem memN_mem {i : Nat} {l : List Nat} : memN i l = true ↔ i ∈ l := by
  unfold memN
  rw [List.any_eq_true]
  constructor
  · rintro ⟨x, hx, h⟩
    rw [Nat.eq_of_beq_eq_true h]; exact hx
  · intro h
    exact ⟨i, h, Nat.beq_refl i⟩
theorem mem_addN {i j : Nat} {l : List Nat} : i ∈ addN j l ↔ i = j ∨ i ∈ l := by
  unfold addN
  cases hb : memN j l
  · simp
  · simp only [cond_true]
    constructor
    · exact .inr
    · rintro (rfl | h)
      · exact memN_mem.1 hb
      · exact h
theorem mem_addsN {i : Nat} : ∀ {m l : List Nat}, i ∈ addsN m l ↔ i ∈ m ∨ i ∈ l := by
  intro m
  induction m with
  | nil => intro l; simp [addsN]
  | cons j m ih =>
    intro l
    simp only [addsN, ih, mem_addN, List.mem_cons]
    constructor
    · rintro (h | rfl | h)
      · exact .inl (.inr h)
      · exact .inl (.inl rfl)
      · exact .inr h
    · rintro ((rfl | h) | h)
      · exact .inr (.inl rfl)
      · exact .inl h
      · exact .inr (.inr h)
theorem mem_ancOf {anc : T (List Nat)} {o : Oper} {i : Nat} : i ∈ ancOf anc o ↔ i ∈ preOf o ∨ ∃ p ∈ preOf o, ∃ ap, anc.get p = some ap ∧ i ∈ ap := by
  unfold ancOf
  induction preOf o with
  | nil => simp [ancsOf]
  | cons j l ih =>
    simp only [ancsOf, mem_addN, mem_addsN, ih, List.mem_cons]
    constructor
    · rintro (rfl | h | h | ⟨p, hp, ap, h1, h2⟩)
      · exact .inl (.inl rfl)
      · cases ha : anc.get j with
        | none => rw [ha] at h; cases h
        | some ap => rw [ha] at h; exact .inr ⟨j, .inl rfl, ap, ha, h⟩
      · exact .inl (.inr h)
      · exact .inr ⟨p, .inr hp, ap, h1, h2⟩
    · rintro ((rfl | h) | ⟨p, rfl | hp, ap, h1, h2⟩)
      · exact .inl rfl
      · exact .inr (.inr (.inl h))
      · exact .inr (.inl (by rw [h1]; exact h2))
      · exact .inr (.inr (.inr ⟨p, hp, ap, h1, h2⟩))

section
variable {tab : Tab} {ops : Array Oper} {nt lo : Nat} {ts0 : T AV} {s s' : DS} {X : Nat → Prop} {i : Nat} {o : Oper} {v : AV}

theorem DInv.float (H : DInv tab ops nt ts0 lo s X) (hi : ops[i]? = some o) (hr : isReady s.anc i o = true) (hok : opOk s.anc ops i o = true)
    (e1 : s'.ts = drawPut nt s.ts o v) (e2 : s'.anc = s.anc.set i (some (ancOf s.anc o))) (eh : ∀ b ob, s.h.get b = some ob → s'.h.get b = some ob) (en : s.h.next ≤ s'.h.next)
    (ea : s'.allocs = s.allocs ∨ (s'.allocs = (i, s.h.next) :: s.allocs ∧ s'.h.next = s.h.next + 1)) (er : ∀ x ∈ s.reads, x ∈ s'.reads) (hd' : ∀ b ob, s'.h.get b = some ob → b < s'.h.next)
    (hk : Kind tab ops s' i o s.ts v) : DInv tab ops nt ts0 lo s' X := by
  obtain ⟨hnone, hpre⟩ := isReady_ok hr
  obtain ⟨hok1, hok2⟩ := opOk_ok hok
  have hanc : ∀ j, s'.anc.get j = if j = i then some (ancOf s.anc o) else s.anc.get j := by
    intro j; rw [e2, T.get_set]
  have hold : ∀ j, (s.anc.get j).isSome → j ≠ i ∧ s'.anc.get j = s.anc.get j := by
    intro j hj
    have hne : j ≠ i := by intro e; subst e; rw [hnone] at hj; cases hj
    exact ⟨hne, by rw [hanc, if_neg hne]⟩
  have hnd : ∀ j oj d, (s.anc.get j).isSome → ops[j]? = some oj → oj.dst = some d → o.dst ≠ some d := by
    intro j oj d hj hoj hd hod
    have := H.uniq j i oj o d hj hoj hi hd hod
    exact (hold j hj).1 this
  have hts : ∀ t, o.dst ≠ some t → s'.ts.get t = s.ts.get t := by
    intro t ht
    rw [e1, drawPut_get, if_neg]
    rintro ⟨h, _⟩
    exact ht h
  refine ⟨?_, ?_, ?_, ?_, ?_, ?_, ?_, ?_, Nat.le_trans H.nx en, ?_, ?_, hd'⟩
  · intro j hj
    rw [(hold j (H.cx j hj)).2]; exact H.cx j hj
  · intro j a hj ha
    rw [(hold j (H.cx j hj)).2] at ha
    exact H.xdn j a hj ha
  · intro j hj
    rw [hanc] at hj
    by_cases h1 : j = i
    · subst h1; exact ⟨o, hi⟩
    · rw [if_neg h1] at hj; exact H.op j hj
  · intro j a oj ha hoj
    rw [hanc] at ha
    by_cases h1 : j = i
    · subst h1
      rw [if_pos rfl] at ha
      rw [hi] at hoj
      cases ha; cases hoj
      refine ⟨fun p hp => ⟨mem_ancOf.2 (.inl hp), ?_⟩, fun x hx => ?_⟩
      · rw [(hold p (hpre p hp)).2]; exact hpre p hp
      · rcases mem_ancOf.1 hx with h | ⟨p, hp, ap, h1, h2⟩
        · exact .inl h
        · exact .inr ⟨p, hp, ap, by rw [(hold p (by rw [h1]; rfl)).2]; exact h1, h2⟩
    · rw [if_neg h1] at ha
      obtain ⟨g1, g2⟩ := H.shape j a oj ha hoj
      refine ⟨fun p hp => ⟨(g1 p hp).1, ?_⟩, fun x hx => ?_⟩
      · rw [(hold p (g1 p hp).2).2]; exact (g1 p hp).2
      · rcases g2 x hx with h | ⟨p, hp, ap, h1, h2⟩
        · exact .inl h
        · exact .inr ⟨p, hp, ap, by rw [(hold p (by rw [h1]; rfl)).2]; exact h1, h2⟩
  · intro a b oa ob d ha hoa hob hda hdb
    rw [hanc] at ha
    by_cases h1 : a = i
    · subst h1
      rw [hi] at hoa; cases hoa
      exact (hok2 d hda b ob hob).1 hdb
    · rw [if_neg h1] at ha
      exact H.uniq a b oa ob d ha hoa hob hda hdb
  · intro t ht
    have h1 : o.dst ≠ some t := ht i o (by rw [hanc, if_pos rfl]; rfl) hi
    rw [hts t h1]
    exact H.tsC t (fun j oj hj hoj => ht j oj (by rw [(hold j hj).2]; exact hj) hoj)
  · intro j hj hx
    by_cases h1 : j = i
    · subst h1
      refine ⟨o, s.ts, v, hi, ?_, ?_, hk⟩
      · intro d hd hlt
        rw [e1, drawPut_get, if_pos ⟨hd, hlt⟩]
      · intro t ht
        by_cases hw : ∃ jj oj, ops[jj]? = some oj ∧ oj.dst = some t ∧ (s.anc.get jj).isSome
        · obtain ⟨jj, oj, g1, g2, g3⟩ := hw
          refine .inl ⟨jj, oj, g1, g2, hok1 t ht jj oj g1 g2 g3, by rw [(hold jj g3).2]; exact g3, ?_⟩
          exact (hts t (hnd jj oj t g3 g1 g2)).symm
        · refine .inr ⟨H.tsC t (fun jj oj g3 g1 g2 => hw ⟨jj, oj, g1, g2, g3⟩), ?_⟩
          intro i' oi a g1 g2 g3
          by_cases h2 : i' = j
          · exact .inl h2
          · rw [hanc, if_neg h2] at g3
            exact absurd ⟨i', oi, g1, g2, by rw [g3]; rfl⟩ hw
    · have hj' : (s.anc.get j).isSome := by rw [hanc, if_neg h1] at hj; exact hj
      obtain ⟨oj, tj, vj, g1, g2, g3, g4⟩ := H.pend j hj' hx
      refine ⟨oj, tj, vj, g1, ?_, ?_, ?_⟩
      · intro d hd hlt
        rw [hts d (hnd j oj d hj' g1 hd)]
        exact g2 d hd hlt
      · intro t ht
        rcases g3 t ht with ⟨i1, oi1, k1, k2, k3, k4, k5⟩ | ⟨k1, k2⟩
        · refine .inl ⟨i1, oi1, k1, k2, k3, by rw [(hold i1 k4).2]; exact k4, ?_⟩
          rw [k5, hts t (hnd i1 oi1 t k4 k1 k2)]
        · refine .inr ⟨k1, ?_⟩
          intro i' oi a q1 q2 q3
          rw [hanc] at q3
          by_cases h2 : i' = i
          · subst h2
            rw [if_pos rfl] at q3
            rw [hi] at q1
            cases q1; cases q3
            exact .inr ((hok2 t q2 j oj g1).2 hj' ht)
          · rw [if_neg h2] at q3
            exact k2 i' oi a q1 q2 q3
      · have hnoA : (∀ x ∈ s.allocs, x.1 ≠ j) → ∀ x ∈ s'.allocs, x.1 ≠ j := by
          intro hx x hm
          rcases ea with ea | ⟨ea, _⟩ <;> rw [ea] at hm
          · exact hx x hm
          · rcases List.mem_cons.1 hm with rfl | hm
            · exact fun e => h1 e.symm
            · exact hx x hm
        rcases g4 with ⟨k1, k2, k3⟩ | ⟨k1, k2⟩
        · exact .inl ⟨k1, k2, hnoA k3⟩
        · refine .inr ⟨k1, ?_⟩
          rcases k2 with k2 | ⟨b, h1', ob, m1, m2, m3, m4, m5⟩ | ⟨m1, m2, m3, hr', m4, m5⟩
          · exact .inl ⟨k2.1, hnoA k2.2⟩
          · refine .inr (.inl ⟨b, h1', ob, ?_, m2, m3, m4, eh _ _ m5⟩)
            rcases ea with ea | ⟨ea, _⟩ <;> rw [ea]
            · exact m1
            · refine ⟨List.mem_cons_of_mem _ m1.1, fun x hm e => ?_⟩
              rcases List.mem_cons.1 hm with rfl | hm
              · exact absurd e.symm h1
              · exact m1.2 x hm e
          · refine .inr (.inr ⟨⟨er _ m1.1, hnoA m1.2⟩, m2, m3, hr', m4, ?_⟩)
            intro b ob hb
            obtain ⟨n1, n2, n3⟩ := m5 b ob hb
            refine ⟨n1, eh _ _ n2, ?_⟩
            intro x hx'
            rcases ea with ea | ⟨ea, _⟩ <;> rw [ea] at hx'
            · exact n3 x hx'
            · rcases List.mem_cons.1 hx' with rfl | hx'
              · have := H.hd b ob n2
                simp only; omega
              · exact n3 x hx'
  · intro x hx
    rcases ea with ea | ⟨ea, hnx⟩ <;> rw [ea] at hx
    · have := H.al x hx
      exact ⟨by omega, by rw [(hold _ this.2.1).2]; exact this.2.1, this.2.2⟩
    · rcases List.mem_cons.1 hx with rfl | hx
      · exact ⟨by simp only; omega, by rw [hanc, if_pos rfl]; rfl, H.nx⟩
      · have := H.al x hx
        exact ⟨by omega, by rw [(hold _ this.2.1).2]; exact this.2.1, this.2.2⟩
  · intro t ht
    rw [e1, drawPut_get, if_neg (fun h => absurd h.2 (Nat.not_lt.2 ht))]
    exact H.tsw t ht
  · intro x hx y hy e
    rcases ea with ea | ⟨ea, hnx⟩ <;> rw [ea] at hx hy
    · exact H.alu x hx y hy e
    · rcases List.mem_cons.1 hx with rfl | hx <;> rcases List.mem_cons.1 hy with rfl | hy
      · rfl
      · have := (H.al y hy).1; simp only at e; omega
      · have := (H.al x hx).1; simp only at e; omega
      · exact H.alu x hx y hy e
end
end Go.Am

namespace Go.Am
open Go.RowKit
variable [Inhabited DrP]

section
variable {tab : Tab} {ops : Array Oper} {nt lo : Nat} {ts0 : T AV} {s s' : DS} {X : Nat → Prop} {i : Nat} {o : Oper} {v : AV}

theorem drawFloat_ok (hf : drawFloat tab ops nt i o s = .ok (some s')) (hi : ops[i]? = some o) (hr : isReady s.anc i o = true) (H : DInv tab ops nt ts0 lo s X) : DInv tab ops nt ts0 lo s' X := by
  unfold drawFloat at hf
  obtain ⟨_, hck, hf1⟩ := R.bind_ok.1 hf
  have hok := R.check_ok.1 hck
  obtain ⟨b, hb, hf2⟩ := R.bind_ok.1 hf1
  clear hf hf1
  have hnoA : ∀ x ∈ s.allocs, x.1 ≠ i := by
    intro x hx e
    have := (H.al x hx).2.1
    rw [e, (isReady_ok hr).1] at this
    cases this
  cases b with
  | false =>
    simp only [Bool.not_false, if_true] at hf2
    cases hf2
    exact H.float hi hr hok rfl rfl (fun _ _ h => h) (Nat.le_refl _) (.inl rfl) (fun _ h => h) H.hd (.inl ⟨hb, rfl, hnoA⟩)
  | true =>
    simp only [Bool.not_true, Bool.false_eq_true, if_false] at hf2
    split at hf2
    · cases hf2
    · -- a block
      obtain ⟨⟨u, h1⟩, hp, hf3⟩ := R.bind_ok.1 hf2
      obtain ⟨_, hn, hf4⟩ := R.bind_ok.1 hf3
      obtain ⟨ob, hob, hf5⟩ := R.bind_ok.1 hf4
      cases hf5
      have hn := Nat.eq_of_beq_eq_true (R.check_ok.1 hn)
      have hob := R.of_ok.1 hob
      refine H.float (v := u) hi hr hok rfl rfl ?_ (by simp) (.inr ⟨rfl, rfl⟩) (fun _ h => h) ?_ (.inr ⟨hb, .inr (.inl ⟨s.h.next, h1, ob, ⟨List.mem_cons_self, ?_⟩, hp, hn, hob, ?_⟩)⟩)
      · intro b ob' hg
        have := H.hd b ob' hg
        simp only
        rw [AH.get_new, if_neg (by omega)]
        exact hg
      · intro b ob' hg
        simp only at hg ⊢
        rw [AH.get_new] at hg
        split at hg
        · simp only [AH.next_new]; omega
        · have := H.hd b ob' hg
          simp only [AH.next_new]; omega
      · intro x hx e
        rcases List.mem_cons.1 hx with rfl | hx
        · rfl
        · exact absurd e (hnoA x hx)
      · simp only
        rw [AH.get_new, if_pos rfl]
    · -- pure, or a read
      rename_i hne hna
      split at hf2
      · rename_i u h1 hm
        obtain ⟨_, hn, hf3⟩ := R.bind_ok.1 hf2
        cases hf3
        have hn := Nat.eq_of_beq_eq_true (R.check_ok.1 hn)
        have hp : pureOp tab s.ts { t := .e, next := 0 } o = .ok (u, h1) := by
          split at hm
          · exact hm
          · cases hm
        exact H.float (v := u) hi hr hok rfl rfl (fun _ _ h => h) (Nat.le_refl _) (.inl rfl) (fun _ h => h) H.hd (.inr ⟨hb, .inl ⟨⟨h1, hp, hn⟩, hnoA⟩⟩)
      · split at hf2
        · rename_i u h1 hp
          cases hf2
          have hsame := pureOp_same (tab := tab) (o := o) ⟨fun e => hne (by rw [e]), fun e => hna (by rw [e])⟩ hp
          subst hsame
          refine H.float (v := u) hi hr hok rfl rfl (fun _ _ h => h) (Nat.le_refl _) (.inl rfl) (fun _ h => List.mem_cons_of_mem _ h) H.hd
            (.inr ⟨hb, .inr (.inr ⟨⟨List.mem_cons_self, hnoA⟩, fun e => hne (by rw [e]), fun e => hna (by rw [e]), _, hp, ?_⟩)⟩)
          intro b ob hg
          rw [hideAll_get] at hg
          split at hg
          · cases hg
          · rename_i hnx
            refine ⟨by rw [hideAll_next]; exact H.hd b ob hg, hg, fun x hx e => hnx ⟨x, hx, e⟩⟩
        · cases hf2

theorem drawPass_ok : ∀ (l : List Oper) (k : Nat) (s s' : DS), (∀ j o, l[j]? = some o → ops[k + j]? = some o) → drawPass tab ops nt k l s = .ok s' → DInv tab ops nt ts0 lo s X → DInv tab ops nt ts0 lo s' X := by
  intro l
  induction l with
  | nil => intro k s s' _ h H; simp only [drawPass] at h; cases h; exact H
  | cons o l ih =>
    intro k s s' hl h H
    have hl' : ∀ j o', l[j]? = some o' → ops[k + 1 + j]? = some o' := by
      intro j o' hj
      have := hl (j + 1) o' (by simpa using hj)
      rw [show k + 1 + j = k + (j + 1) from by omega]; exact this
    simp only [drawPass] at h
    by_cases hr : isReady s.anc k o = true
    · simp only [hr, cond_true] at h
      obtain ⟨x, hx, h1⟩ := R.bind_ok.1 h
      cases x with
      | none => exact ih (k + 1) s s' hl' h1 H
      | some s1 => exact ih (k + 1) s1 s' hl' h1 (drawFloat_ok hx (by simpa using hl 0 o rfl) hr H)
    · have : isReady s.anc k o = false := by simpa using hr
      simp only [this, cond_false] at h
      exact ih (k + 1) s s' hl' h H

theorem cands_ok : ∀ (l : List Oper) (k : Nat) (anc : T (List Nat)) (j : Nat) (o : Oper), l[j]? = some o → isReady anc (k + j) o = true → (k + j, o) ∈ cands anc k l := by
  intro l
  induction l with
  | nil => intro k anc j o h; simp at h
  | cons x l ih =>
    intro k anc j o hj hr
    simp only [cands]
    cases j with
    | zero =>
      simp only [List.getElem?_cons_zero, Option.some.injEq] at hj
      subst hj
      simp only [Nat.add_zero] at hr ⊢
      simp [hr]
    | succ j =>
      have h1 := ih (k + 1) anc j o (by simpa using hj) (by rw [show k + 1 + j = k + (j + 1) from by omega]; exact hr)
      rw [show k + 1 + j = k + (j + 1) from by omega] at h1
      cases isReady anc k x
      · exact h1
      · exact List.mem_cons_of_mem _ h1
theorem cands_sound : ∀ (l : List Oper) (k : Nat) (anc : T (List Nat)) (j : Nat) (o : Oper), (j, o) ∈ cands anc k l → ∃ j', j = k + j' ∧ l[j']? = some o ∧ isReady anc j o = true := by
  intro l
  induction l with
  | nil => intro k anc j o h; simp [cands] at h
  | cons x l ih =>
    intro k anc j o h
    simp only [cands] at h
    cases hr : isReady anc k x with
    | true =>
      rw [hr] at h
      simp only [cond_true] at h
      rcases List.mem_cons.1 h with e | h
      · cases e
        exact ⟨0, rfl, rfl, hr⟩
      · obtain ⟨j', h1, h2, h3⟩ := ih (k + 1) anc j o h
        exact ⟨j' + 1, by omega, by simpa using h2, h3⟩
    | false =>
      rw [hr] at h
      simp only [cond_false] at h
      obtain ⟨j', h1, h2, h3⟩ := ih (k + 1) anc j o h
      exact ⟨j' + 1, by omega, by simpa using h2, h3⟩
end
end Go.Am

namespace Go.Am
open Go.RowKit
variable [Inhabited DrP]

structure RInv (ops : Array Oper) (fr0 : AFrame) (cs : List AFrame) (k : List AItem) (base : List Frame) (s : DS) (X : Nat → Prop) (D : Nat → Prop) (E : Env) (K : KS)
    (tsR : T AV) (hR : AH) (l : List Nat) (frC : Frame) (csC : List Frame) (w : World) : Prop where
  rel : Rel D E K { fr := { fr0 with tmps := tsR, todo := .inRegion ops l :: k }, cs, h := hR } base frC csC w
  hr : ∀ i ob, hR.get i = some ob ↔ s.h.get i = some ob ∧ ∀ x ∈ s.allocs, x.2 = i → X x.1
  hn : hR.next = s.h.next
  tr1 : ∀ j o t, X j → ops[j]? = some o → o.dst = some t → tsR.get t = s.ts.get t
  tr0 : ∀ t, (∀ j o, X j → ops[j]? = some o → o.dst ≠ some t) → tsR.get t = fr0.tmps.get t
  dp : ∀ x ∈ s.allocs, ¬ X x.1 → ¬ D x.2

section
variable {P : Program} {tab : Tab} (ok : TabOK P tab)
variable {D : Nat → Prop} {E : Env} {K : KS} {base : List Frame} {frC : Frame} {csC : List Frame} {w : World}
variable {ops : Array Oper} {fr0 : AFrame} {cs : List AFrame} {k : List AItem} {lo : Nat} {s : DS} {X : Nat → Prop} {tsR : T AV} {hR : AH} {j : Nat} {l : List Nat} {o : Oper} {v : AV}

theorem skip_step {fr fr' : AFrame} {h : AH} {i : Nat} {rest : List Nat} {k : List AItem} (hR : Rel D E K { fr, cs, h } base frC csC w) (hm : fr.mode = .run) (ht : fr.todo = .inRegion ops (i :: rest) :: k) (ho : ops[i]? = some o) (hw : wanted ops o fr.tmps = .ok false)
    (hf : fr.finish (.tup []) = .ok fr') : GetsN P (lone frC csC w) D (fun _ => False) E K { fr := fr', cs, h } base w := by
  have hfc := finish_conc hf
  refine hR.oneN (m' := { fr := fr', cs, h }) _ _ (fun _ => (0, 0)) (fun _ h => h.elim) (fun i hi => hi.elim (hR.dom i) False.elim) ⟨(hfc E).2.1 hR.wf.1, hR.wf.2⟩ ?_
  intro E' he H e1 e2 _
  refine ⟨w, step_lone_go ?_, H, Kept.refl K w⟩
  have hw' := wanted_conc hR.wf.1 hw E'
  rw [← (hfc E').1, ← e1, ← e2]
  have h1 : (concF E' fr).todo = .inRegion ops (i :: rest) :: k.map (concI E') := by simp [concF, ht, concI]
  have h2 : (concF E' fr).mode = .run := by simp [concF, hm, concM]
  have h3 : Region.wanted o (yielded ops (concF E' fr).tmps) = false := hw'
  simp only
  generalize concF E' fr = g at *
  unfold stepG stepG.exec
  simp [h1, h2, ho, h3]
  rfl

theorem look_real (H : DInv tab ops fr0.nt fr0.tmps lo s X) (R : RInv ops fr0 cs k base s X D E K tsR hR l frC csC w) {tj : T AV} (hl : Look ops fr0.tmps s j o tj) (hx : ¬ X j) (hready : ∀ p ∈ preOf o, X p) :
    ∀ t ∈ looks ops o, tsR.get t = tj.get t := by
  intro t ht
  rcases hl t ht with ⟨i, oi, h1, h2, h3, _, h5⟩ | ⟨h1, h2⟩
  · rw [h5, R.tr1 i oi t (hready i h3) h1 h2]
  · rw [h1]
    refine R.tr0 t (fun i oi hi hoi hd => ?_)
    have hc := H.cx i hi
    cases ha : s.anc.get i with
    | none => rw [ha] at hc; cases hc
    | some a =>
      rcases h2 i oi a hoi hd ha with e | hm
      · exact hx (e ▸ hi)
      · exact hx (H.xdn i a hi ha j hm)

theorem DInv.come (H : DInv tab ops fr0.nt fr0.tmps lo s X) (hC : (s.anc.get j).isSome) (ho : ops[j]? = some o) (hready : ∀ p ∈ preOf o, X p) : DInv tab ops fr0.nt fr0.tmps lo s (fun i => X i ∨ i = j) := by
  refine ⟨?_, ?_, H.op, H.shape, H.uniq, H.tsC, fun i hi hx => H.pend i hi (fun h => hx (.inl h)), H.al, H.nx, H.tsw, H.alu, H.hd⟩
  · rintro i (hi | rfl)
    · exact H.cx i hi
    · exact hC
  · rintro i a (hi | rfl) ha x hx
    · exact .inl (H.xdn i a hi ha x hx)
    · obtain ⟨g1, g2⟩ := H.shape i a o ha ho
      rcases g2 x hx with hp | ⟨p, hp, ap, h1, h2⟩
      · exact .inl (hready x hp)
      · exact .inl (H.xdn p ap (hready p hp) h1 x h2)

theorem tr_put (H : DInv tab ops fr0.nt fr0.tmps lo s X) (R : RInv ops fr0 cs k base s X D E K tsR hR l frC csC w) (hC : (s.anc.get j).isSome) (ho : ops[j]? = some o) (hdst : ∀ d, o.dst = some d → d < fr0.nt → s.ts.get d = some v) :
    (∀ i oi t, (X i ∨ i = j) → ops[i]? = some oi → oi.dst = some t → (drawPut fr0.nt tsR o v).get t = s.ts.get t) ∧
    (∀ t, (∀ i oi, (X i ∨ i = j) → ops[i]? = some oi → oi.dst ≠ some t) → (drawPut fr0.nt tsR o v).get t = fr0.tmps.get t) := by
  constructor
  · intro i oi t hi hoi hd
    rw [drawPut_get]
    by_cases h1 : o.dst = some t ∧ t < fr0.nt
    · rw [if_pos h1, hdst t h1.1 h1.2]
    · rw [if_neg h1]
      rcases hi with hi | rfl
      · exact R.tr1 i oi t hi hoi hd
      · rw [ho] at hoi
        cases hoi
        have hge : fr0.nt ≤ t := Nat.le_of_not_lt (fun hlt => h1 ⟨hd, hlt⟩)
        rw [H.tsw t hge]
        exact R.rel.wf.1 t hge
  · intro t ht
    rw [drawPut_get, if_neg (fun h => ht j o (.inr rfl) ho h.1)]
    exact R.tr0 t (fun i oi hi hoi => ht i oi (.inl hi) hoi)

theorem finish_draw (ho : ops[j]? = some o) (v : AV) : AFrame.finish { fr0 with tmps := tsR, todo := .inRegion ops (j :: l) :: k } v = .ok { fr0 with tmps := drawPut fr0.nt tsR o v, todo := .inRegion ops l :: k } := by
  unfold AFrame.finish
  simp only [ho, Option.bind_some]
  congr 1
end
end Go.Am

namespace Go.Am
open Go.RowKit
variable [Inhabited DrP]

section
variable {P : Program} {tab : Tab} (ok : TabOK P tab) {sub : FuncId → List AV → AH → R (List (AV × AH))} (hsub : SubOK P tab sub) (hext : ExtOK P tab)
variable {D : Nat → Prop} {E : Env} {K : KS} {base : List Frame} {frC : Frame} {csC : List Frame} {w : World}
variable {ops : Array Oper} {fr0 : AFrame} {cs : List AFrame} {k : List AItem} {lo : Nat} {s : DS} {X : Nat → Prop} {tsR : T AV} {hR : AH} {j : Nat} {l : List Nat} {o : Oper} {v : AV}

def Comes1 (P : Program) (ops : Array Oper) (fr0 : AFrame) (cs : List AFrame) (k : List AItem) (base : List Frame) (s : DS) (X : Nat → Prop) (D : Nat → Prop) (E : Env) (K : KS) (lo : Nat) (l : List Nat) (frC : Frame) (csC : List Frame) (w : World) : Prop :=
  ∃ tsR' hR' frC' csC' w' D' E', Steps P (lone frC csC w) (lone frC' csC' w') ∧ RInv ops fr0 cs k base s X D' E' K tsR' hR' l frC' csC' w' ∧ Agree D E E' ∧ (∀ i, D i → D' i) ∧ Kept K w w' ∧ (∀ i, D' i → D i ∨ lo ≤ i)

include ok in
theorem exec_pend (H : DInv tab ops fr0.nt fr0.tmps lo s X) (R : RInv ops fr0 cs k base s X D E K tsR hR (j :: l) frC csC w) (hm : fr0.mode = .run) (ho : ops[j]? = some o) (hC : (s.anc.get j).isSome) (hx : ¬ X j)
    (hready : ∀ p ∈ preOf o, X p) : Comes1 P ops fr0 cs k base s (fun i => X i ∨ i = j) D E K lo l frC csC w := by
  obtain ⟨o', tj, v, ho', hdst, hlook, hkind⟩ := H.pend j hC hx
  rw [ho] at ho'
  cases ho'
  have hl := look_real H R hlook hx hready
  obtain ⟨hops, hwant⟩ := looks_spec hl
  obtain ⟨htr1, htr0⟩ := tr_put H R hC ho hdst
  have hfin := finish_draw (fr0 := fr0) (tsR := tsR) (l := l) (k := k) ho v
  have hdomR := (R.rel.all E (Agree.refl _ _)).1.dom
  have wrap : ∀ (N : Nat → Prop) (hR2 : AH), GetsN P (lone frC csC w) D N E K { fr := { fr0 with tmps := drawPut fr0.nt tsR o v, todo := .inRegion ops l :: k }, cs, h := hR2 } base w →
      (∀ i ob, hR2.get i = some ob ↔ s.h.get i = some ob ∧ ∀ x ∈ s.allocs, x.2 = i → X x.1 ∨ x.1 = j) → hR2.next = s.h.next → (∀ i, N i → (j, i) ∈ s.allocs) →
      Comes1 P ops fr0 cs k base s (fun i => X i ∨ i = j) D E K lo l frC csC w := by
    intro N hR2 hg hchar hnx hN
    obtain ⟨frC', csC', w', E1, s1, s2, s3, s4⟩ := hg
    refine ⟨_, hR2, frC', csC', w', _, E1, s1, ⟨s2, hchar, hnx, htr1, htr0, ?_⟩, s3, fun i hi => .inl hi, s4, fun i hi => hi.elim .inl (fun h => .inr ((H.al _ (hN i h)).2.2))⟩
    rintro x hxm hnx' (hd | hn)
    · exact R.dp x hxm (fun h => hnx' (.inl h)) hd
    · have := H.alu x hxm _ (hN _ hn) rfl
      exact hnx' (.inr (by rw [this]))
  have hcharA : (∀ x ∈ s.allocs, x.1 ≠ j) → ∀ i ob, hR.get i = some ob ↔ s.h.get i = some ob ∧ ∀ x ∈ s.allocs, x.2 = i → X x.1 ∨ x.1 = j := by
    intro hno i ob
    rw [R.hr i ob]
    constructor
    · rintro ⟨h1, h2⟩
      exact ⟨h1, fun x hx e => .inl (h2 x hx e)⟩
    · rintro ⟨h1, h2⟩
      exact ⟨h1, fun x hx e => (h2 x hx e).resolve_right (hno x hx)⟩
  rcases hkind with ⟨hw, rfl, hno⟩ | ⟨hw, hk⟩
  · exact wrap _ hR (skip_step R.rel hm rfl ho (by rw [hwant]; exact hw) hfin) (hcharA hno) R.hn (fun _ h => h.elim)
  · have a := atOp R.rel hm rfl ho (by rw [hwant]; exact hw)
    rcases hk with ⟨⟨h1, hp, hn1⟩, hno⟩ | ⟨b, h1, ob, ⟨hb1, hb2⟩, hp, hn1, hob, hsb⟩ | ⟨⟨_, hno⟩, _, _, hr, hp, hrr⟩
    · refine wrap _ hR (frame_step ok R.rel a (h0 := { t := .e, next := 0 }) (h1 := h1) (h2 := hR) (by rw [pureOp_congr o hops]; exact hp) hfin ?_ ?_ ?_ (fun i o h => .inl (hdomR i o h)) (fun _ => False) ?_ (fun _ h => h.elim) (fun i hi => hi.elim (R.rel.dom i) False.elim)) (hcharA hno) R.hn (fun _ h => h.elim)
      · intro i o' h; cases h
      · intro i o' h; cases h
      · intro i o' h; exact .inr ⟨h, rfl⟩
      · intro h; simp only at h; omega
    · have hbn := (H.al _ hb1).1
      have hget : ∀ i, (hR.set b ob).get i = if i = b then some ob else hR.get i := fun i => AH.get_set _ _ _ _
      refine wrap (fun i => i = b) (hR.set b ob) (frame_step ok R.rel a (h0 := { t := .e, next := b }) (h1 := h1) (h2 := hR.set b ob) (by rw [pureOp_congr o hops]; exact hp) hfin ?_ ?_ ?_ ?_ (fun i => i = b) ?_ ?_ ?_) ?_ R.hn ?_
      · intro i o' h; cases h
      · intro i o' h; cases h
      · intro i o' h
        rw [hget] at h
        by_cases e : i = b
        · subst e
          rw [if_pos rfl] at h
          exact .inl (hob.trans h)
        · rw [if_neg e] at h
          exact .inr ⟨h, rfl⟩
      · intro i o' h
        rw [hget] at h
        simp only [AH.next_set]
        left
        by_cases e : i = b
        · rw [e, R.hn]; exact hbn
        · rw [if_neg e] at h
          exact hdomR i o' h
      · intro _; rfl
      · rintro i rfl
        exact ⟨rfl, R.dp _ hb1 hx⟩
      · rintro i (hi | rfl)
        · exact R.rel.dom i hi
        · simp only [AH.next_set]; rw [R.hn]; exact hbn
      · intro i ob'
        rw [hget]
        by_cases e : i = b
        · subst e
          rw [if_pos rfl, hsb]
          constructor
          · intro h
            refine ⟨h, fun x hx e => .inr ?_⟩
            rw [H.alu x hx _ hb1 e]
          · exact fun h => h.1
        · rw [if_neg e, R.hr i ob']
          constructor
          · rintro ⟨h1, h2⟩
            exact ⟨h1, fun x hx e => .inl (h2 x hx e)⟩
          · rintro ⟨h1, h2⟩
            refine ⟨h1, fun x hx e' => (h2 x hx e').resolve_right (fun ej => e ?_)⟩
            rw [← e', hb2 x hx ej]
      · rintro i rfl
        exact hb1
    · refine wrap _ hR (frame_step ok R.rel a (h0 := hr) (h1 := hr) (h2 := hR) (by rw [pureOp_congr o hops]; exact hp) hfin ?_ ?_ ?_ (fun i o h => .inl (hdomR i o h)) (fun _ => False) ?_ (fun _ h => h.elim) (fun i hi => hi.elim (R.rel.dom i) False.elim)) (hcharA hno) R.hn (fun _ h => h.elim)
      · intro i o' h
        obtain ⟨g1, g2, g3⟩ := hrr i o' h
        exact (R.hr i o').2 ⟨g2, fun x hx e => absurd e (g3 x hx)⟩
      · intro i o' h; exact (hrr i o' h).1
      · intro i o' h
        cases hg : hr.get i with
        | none => exact .inr ⟨h, rfl⟩
        | some ob' =>
          left
          have := (hrr i ob' hg).2.1
          rw [((R.hr i o').1 h).1] at this
          exact this.symm
      · intro h; omega
end
end Go.Am

namespace Go.Am
open Go.RowKit
variable [Inhabited DrP]

section
variable {tab : Tab} {ops : Array Oper} {nt lo : Nat} {ts0 : T AV} {s s' : DS} {X : Nat → Prop} {i : Nat} {o : Oper} {v : AV}

theorem DInv.eff (H : DInv tab ops nt ts0 lo s X) (hi : ops[i]? = some o) (hr : isReady s.anc i o = true) (hok : opOk s.anc ops i o = true) (hanX : ∀ p ∈ ancOf s.anc o, X p)
    (e1 : s'.ts = drawPut nt s.ts o v) (e2 : s'.anc = s.anc.set i (some (ancOf s.anc o))) (en : s.h.next ≤ s'.h.next)
    (ea : ∀ x ∈ s'.allocs, x ∈ s.allocs) (ea' : ∀ x ∈ s.allocs, x.1 ∉ ancOf s.anc o → x ∈ s'.allocs) (eh : ∀ x ∈ s'.allocs, s'.h.get x.2 = s.h.get x.2) (hd' : ∀ b ob, s'.h.get b = some ob → b < s'.h.next)
    (er : ∀ j oj tj vj, (j, tj, vj) ∈ s.reads → j ∉ ancOf s.anc o → ops[j]? = some oj → cls tab oj ≠ .eff → cls tab oj ≠ .alloc → (j, tj, vj) ∈ s'.reads ∧ ∃ hr, pureOp tab tj hr oj = .ok (vj, hr) ∧ ∀ b ob, hr.get b = some ob → b < hr.next ∧ s'.h.get b = some ob ∧ ∀ x ∈ s'.allocs, x.2 ≠ b) :
    DInv tab ops nt ts0 lo s' (fun j => X j ∨ j = i) := by
  obtain ⟨hnone, hpre⟩ := isReady_ok hr
  obtain ⟨hok1, hok2⟩ := opOk_ok hok
  have hanc : ∀ j, s'.anc.get j = if j = i then some (ancOf s.anc o) else s.anc.get j := by
    intro j; rw [e2, T.get_set]
  have hold : ∀ j, (s.anc.get j).isSome → j ≠ i ∧ s'.anc.get j = s.anc.get j := by
    intro j hj
    have hne : j ≠ i := by intro e; subst e; rw [hnone] at hj; cases hj
    exact ⟨hne, by rw [hanc, if_neg hne]⟩
  have hnd : ∀ j oj d, (s.anc.get j).isSome → ops[j]? = some oj → oj.dst = some d → o.dst ≠ some d := by
    intro j oj d hj hoj hd hod
    have := H.uniq j i oj o d hj hoj hi hd hod
    exact (hold j hj).1 this
  have hts : ∀ t, o.dst ≠ some t → s'.ts.get t = s.ts.get t := by
    intro t ht
    rw [e1, drawPut_get, if_neg]
    rintro ⟨h, _⟩
    exact ht h
  refine ⟨?_, ?_, ?_, ?_, ?_, ?_, ?_, ?_, Nat.le_trans H.nx en, ?_, ?_, hd'⟩
  · rintro j (hj | rfl)
    · rw [(hold j (H.cx j hj)).2]; exact H.cx j hj
    · rw [hanc, if_pos rfl]; rfl
  · rintro j a (hj | rfl) ha p hp
    · rw [(hold j (H.cx j hj)).2] at ha
      exact .inl (H.xdn j a hj ha p hp)
    · rw [hanc, if_pos rfl] at ha
      cases ha
      exact .inl (hanX p hp)
  · intro j hj
    rw [hanc] at hj
    by_cases h1 : j = i
    · subst h1; exact ⟨o, hi⟩
    · rw [if_neg h1] at hj; exact H.op j hj
  · intro j a oj ha hoj
    rw [hanc] at ha
    by_cases h1 : j = i
    · subst h1
      rw [if_pos rfl] at ha
      rw [hi] at hoj
      cases ha; cases hoj
      refine ⟨fun p hp => ⟨mem_ancOf.2 (.inl hp), ?_⟩, fun x hx => ?_⟩
      · rw [(hold p (hpre p hp)).2]; exact hpre p hp
      · rcases mem_ancOf.1 hx with h | ⟨p, hp, ap, h1, h2⟩
        · exact .inl h
        · exact .inr ⟨p, hp, ap, by rw [(hold p (by rw [h1]; rfl)).2]; exact h1, h2⟩
    · rw [if_neg h1] at ha
      obtain ⟨g1, g2⟩ := H.shape j a oj ha hoj
      refine ⟨fun p hp => ⟨(g1 p hp).1, ?_⟩, fun x hx => ?_⟩
      · rw [(hold p (g1 p hp).2).2]; exact (g1 p hp).2
      · rcases g2 x hx with h | ⟨p, hp, ap, h1, h2⟩
        · exact .inl h
        · exact .inr ⟨p, hp, ap, by rw [(hold p (by rw [h1]; rfl)).2]; exact h1, h2⟩
  · intro a b oa ob d ha hoa hob hda hdb
    rw [hanc] at ha
    by_cases h1 : a = i
    · subst h1
      rw [hi] at hoa; cases hoa
      exact (hok2 d hda b ob hob).1 hdb
    · rw [if_neg h1] at ha
      exact H.uniq a b oa ob d ha hoa hob hda hdb
  · intro t ht
    have h1 : o.dst ≠ some t := ht i o (by rw [hanc, if_pos rfl]; rfl) hi
    rw [hts t h1]
    exact H.tsC t (fun j oj hj hoj => ht j oj (by rw [(hold j hj).2]; exact hj) hoj)
  · intro j hj hx
    have h1 : j ≠ i := fun e => hx (.inr e)
    have hxj : ¬ X j := fun h => hx (.inl h)
    have hjan : j ∉ ancOf s.anc o := fun h => hxj (hanX j h)
    have hj' : (s.anc.get j).isSome := by rw [hanc, if_neg h1] at hj; exact hj
    obtain ⟨oj, tj, vj, g1, g2, g3, g4⟩ := H.pend j hj' hxj
    refine ⟨oj, tj, vj, g1, ?_, ?_, ?_⟩
    · intro d hd hlt
      rw [hts d (hnd j oj d hj' g1 hd)]
      exact g2 d hd hlt
    · intro t ht
      rcases g3 t ht with ⟨i1, oi1, k1, k2, k3, k4, k5⟩ | ⟨k1, k2⟩
      · refine .inl ⟨i1, oi1, k1, k2, k3, by rw [(hold i1 k4).2]; exact k4, ?_⟩
        rw [k5, hts t (hnd i1 oi1 t k4 k1 k2)]
      · refine .inr ⟨k1, ?_⟩
        intro i' oi a q1 q2 q3
        rw [hanc] at q3
        by_cases h2 : i' = i
        · subst h2
          rw [if_pos rfl] at q3
          rw [hi] at q1
          cases q1; cases q3
          exact .inr ((hok2 t q2 j oj g1).2 hj' ht)
        · rw [if_neg h2] at q3
          exact k2 i' oi a q1 q2 q3
    · rcases g4 with ⟨k1, k2, k3⟩ | ⟨k1, k2⟩
      · exact .inl ⟨k1, k2, fun x hx => k3 x (ea x hx)⟩
      · refine .inr ⟨k1, ?_⟩
        rcases k2 with k2 | ⟨b, h1', ob, m1, m2, m3, m4, m5⟩ | ⟨m1, m2, m3, _⟩
        · exact .inl ⟨k2.1, fun x hx => k2.2 x (ea x hx)⟩
        · have hm := ea' _ m1.1 hjan
          exact .inr (.inl ⟨b, h1', ob, ⟨hm, fun x hx => m1.2 x (ea x hx)⟩, m2, m3, m4, (eh _ hm).trans m5⟩)
        · obtain ⟨q1, q2⟩ := er j oj tj vj m1.1 hjan g1 m2 m3
          exact .inr (.inr ⟨⟨q1, fun x hx => m1.2 x (ea x hx)⟩, m2, m3, q2⟩)
  · intro x hx
    have := H.al x (ea x hx)
    exact ⟨by omega, by rw [(hold _ this.2.1).2]; exact this.2.1, this.2.2⟩
  · intro t ht
    rw [e1, drawPut_get, if_neg (fun h => absurd h.2 (Nat.not_lt.2 ht))]
    exact H.tsw t ht
  · intro x hx y hy e
    exact H.alu x (ea x hx) y (ea y hy) e

theorem reread_ok {h : AH} : ∀ (l : List (Nat × T AV × AV)), reread tab ops h l = .ok () → ∀ j tj vj, (j, tj, vj) ∈ l → ∃ oj h', ops[j]? = some oj ∧ pureOp tab tj h oj = .ok (vj, h') := by
  intro l
  induction l with
  | nil => intro _ j tj vj hm; cases hm
  | cons x l ih =>
    intro h j tj vj hm
    obtain ⟨i, ts, v⟩ := x
    simp only [reread] at h
    obtain ⟨o, ho, h1⟩ := R.bind_ok.1 h
    obtain ⟨⟨u, h'⟩, hp, h2⟩ := R.bind_ok.1 h1
    obtain ⟨_, hb, h3⟩ := R.bind_ok.1 h2
    have hb := AV.beq_eq _ _ (R.check_ok.1 hb)
    rcases List.mem_cons.1 hm with e | hm
    · cases e
      exact ⟨o, h', R.of_ok.1 ho, by rw [← hb]; exact hp⟩
    · exact ih h3 j tj vj hm
end
end Go.Am

namespace Go.Am
open Go.RowKit
variable [Inhabited DrP]

section
variable {P : Program} {tab : Tab} (ok : TabOK P tab) {sub : FuncId → List AV → AH → R (List (AV × AH))} (hsub : SubOK P tab sub) (hext : ExtOK P tab)
variable {D : Nat → Prop} {E : Env} {K : KS} {base : List Frame} {frC : Frame} {csC : List Frame} {w : World}
variable {ops : Array Oper} {fr0 : AFrame} {cs : List AFrame} {k : List AItem} {lo : Nat} {s s2 : DS} {X : Nat → Prop} {tsR : T AV} {hR : AH} {j : Nat} {l : List Nat} {o : Oper}

open Classical in
include ok hsub hext in
theorem exec_eff (H : DInv tab ops fr0.nt fr0.tmps lo s X) (Q : RInv ops fr0 cs k base s X D E K tsR hR (j :: l) frC csC w) (hm : fr0.mode = .run) (ho : ops[j]? = some o) (hr : isReady s.anc j o = true)
    (hd : drawEff tab sub ops fr0.nt j o s = .ok s2) (hready : ∀ p ∈ preOf o, X p) : DInv tab ops fr0.nt fr0.tmps lo s2 (fun i => X i ∨ i = j) ∧ Comes1 P ops fr0 cs k base s2 (fun i => X i ∨ i = j) D E K lo l frC csC w := by
  unfold drawEff at hd
  obtain ⟨_, hck, hd1⟩ := R.bind_ok.1 hd
  obtain ⟨b, hb, hd2⟩ := R.bind_ok.1 hd1
  obtain ⟨_, hbt, hd3⟩ := R.bind_ok.1 hd2
  obtain ⟨⟨v, h1⟩, hp, hd4⟩ := R.bind_ok.1 hd3
  obtain ⟨_, hle, hd5⟩ := R.bind_ok.1 hd4
  obtain ⟨_, hrr, hd6⟩ := R.bind_ok.1 hd5
  clear hd hd1 hd2 hd3 hd4 hd5
  cases hd6
  have hok := R.check_ok.1 hck
  have hbt : b = true := R.check_ok.1 hbt
  subst hbt
  have hle := Nat.le_of_ble_eq_true (R.check_ok.1 hle)
  obtain ⟨hnone, hpre⟩ := isReady_ok hr
  obtain ⟨hok1, hok2⟩ := opOk_ok hok
  have hxj : ¬ X j := fun h => by have := H.cx j h; rw [hnone] at this; cases this
  have hanX : ∀ p ∈ ancOf s.anc o, X p := by
    intro p hp
    rcases mem_ancOf.1 hp with h | ⟨q, hq, ap, h1, h2⟩
    · exact hready p h
    · exact H.xdn q ap (hready q hq) h1 p h2
  generalize hhid : (s.allocs.filter fun x => !(memN x.1 (ancOf s.anc o))) = hid at *
  have hidm : ∀ x, x ∈ hid ↔ x ∈ s.allocs ∧ x.1 ∉ ancOf s.anc o := by
    intro x
    rw [← hhid, List.mem_filter]
    constructor
    · rintro ⟨h1, h2⟩
      refine ⟨h1, fun hm => ?_⟩
      rw [memN_iff.2 hm] at h2; cases h2
    · rintro ⟨h1, h2⟩
      refine ⟨h1, ?_⟩
      cases hb : memN x.1 (ancOf s.anc o) with
      | true => exact absurd (memN_iff.1 hb) h2
      | false => rfl
  have hidj : ∀ x ∈ hid, x.1 ≠ j := by
    intro x hx e
    have := (H.al x ((hidm x).1 hx).1).2.1
    rw [e, hnone] at this; cases this
  -- what it looks at
  have hl : ∀ t ∈ looks ops o, tsR.get t = s.ts.get t := by
    intro t ht
    by_cases hw : ∃ jj oj, ops[jj]? = some oj ∧ oj.dst = some t ∧ (s.anc.get jj).isSome
    · obtain ⟨jj, oj, g1, g2, g3⟩ := hw
      exact Q.tr1 jj oj t (hready jj (hok1 t ht jj oj g1 g2 g3)) g1 g2
    · rw [Q.tr0 t (fun jj oj hx hoj hd => hw ⟨jj, oj, hoj, hd, H.cx jj hx⟩), H.tsC t (fun jj oj hc hoj hd => hw ⟨jj, oj, hoj, hd, hc⟩)]
  obtain ⟨hops, hwant⟩ := looks_spec hl
  have a := atOp Q.rel hm rfl ho (by rw [hwant]; exact hb)
  have hfin := finish_draw (fr0 := fr0) (tsR := tsR) (l := l) (k := k) ho v
  let h2 := restore h1 s.h hid
  let pd := hid.filter fun x => decide (¬ (X x.1 ∨ x.1 = j))
  let hR2 := hideAll h2 pd
  have hg2 : ∀ i, h2.get i = if ∃ x ∈ hid, x.2 = i then s.h.get i else h1.get i := fun i => restore_get _ _ _ _
  have hn2 : h2.next = h1.next := restore_next _ _ _
  have hchar : ∀ i ob, hR2.get i = some ob ↔ h2.get i = some ob ∧ ∀ x ∈ hid, x.2 = i → X x.1 ∨ x.1 = j := by
    intro i ob
    simp only [hR2, hideAll_get]
    constructor
    · intro h
      split at h
      · cases h
      · rename_i hne
        refine ⟨h, fun x hx e => ?_⟩
        by_cases hc : X x.1 ∨ x.1 = j
        · exact hc
        · exact absurd ⟨x, by simp only [pd, List.mem_filter]; exact ⟨hx, by simpa using hc⟩, e⟩ hne
    · rintro ⟨h1, h2⟩
      rw [if_neg]
      · exact h1
      · rintro ⟨x, hx, e⟩
        simp only [pd, List.mem_filter] at hx
        have := h2 x hx.1 e
        exact absurd this (by simpa using hx.2)
  have hR2n : hR2.next = h1.next := (hideAll_next _ _).trans hn2
  have hgets := eff_step ok hsub hext Q.rel a (h0 := hideAll s.h hid) (h1 := h1) (h2 := hR2) (v := v) (by rw [effOp_congr o hops]; exact hp) hfin
    (by
      intro i ob h
      rw [hideAll_get] at h
      split at h
      · cases h
      · rename_i hne
        refine (Q.hr i ob).2 ⟨h, fun x hx e => ?_⟩
        by_cases hc : x.1 ∈ ancOf s.anc o
        · exact hanX _ hc
        · exact absurd ⟨x, (hidm x).2 ⟨hx, hc⟩, e⟩ hne)
    (by
      intro i ob h
      rw [hideAll_get] at h
      split at h
      · cases h
      · rw [hideAll_next]; exact H.hd i ob h)
    (by
      intro i ob h
      obtain ⟨h3, h4⟩ := (hchar i ob).1 h
      rw [hg2] at h3
      split at h3
      · rename_i hex
        right
        refine ⟨(Q.hr i ob).2 ⟨h3, fun x hx e => ?_⟩, by rw [hideAll_get, if_pos hex]⟩
        obtain ⟨y, hy, e'⟩ := hex
        have : x = y := H.alu x hx y ((hidm y).1 hy).1 (e.trans e'.symm)
        subst this
        exact (h4 x hy e').resolve_right (hidj x hy)
      · exact .inl h3)
    (by
      intro i ob h
      obtain ⟨h3, _⟩ := (hchar i ob).1 h
      rw [hg2] at h3
      rw [hR2n]
      split at h3
      · have := H.hd i ob h3; left; omega
      · exact .inr ⟨h3, Nat.le_refl _⟩)
    (by rw [hideAll_next]; exact hle) hR2n (by intro i hi; rw [hideAll_next, ← Q.hn]; exact Q.rel.dom i hi)
  obtain ⟨frC', csC', w', E1, D1, s1, rel1, ag1, dd1, kp1, _, new1⟩ := hgets
  rw [hideAll_next] at new1
  have hdom2 : ∀ i ob, h2.get i = some ob → i < h2.next := by
    intro i ob h
    rw [hn2]
    rw [hg2] at h
    split at h
    · have := H.hd i ob h; omega
    · rename_i hne
      have h3 := (hchar i ob).2 ⟨by rw [hg2, if_neg hne]; exact h, fun x hx e => absurd ⟨x, hx, e⟩ hne⟩
      have := (rel1.all E1 (Agree.refl _ _)).1.dom i ob h3
      rw [← hR2n]; exact this
  refine ⟨?_, drawPut fr0.nt tsR o v, hR2, frC', csC', w', D1, E1, s1, ⟨rel1, hchar, hR2n.trans hn2.symm, ?_, ?_, ?_⟩, ag1, dd1, kp1, ?_⟩
  · refine H.eff ho hr hok hanX rfl rfl (by simp only; rw [restore_next]; exact hle) (fun x hx => ((hidm x).1 hx).1) (fun x hx hn => (hidm x).2 ⟨hx, hn⟩) ?_ hdom2 ?_
    · intro x hx
      show h2.get x.2 = s.h.get x.2
      rw [hg2, if_pos ⟨x, hx, rfl⟩]
    · intro j' oj tj vj hmr hjan hoj hce hca
      have hmf : (j', tj, vj) ∈ s.reads.filter (fun x => !(memN x.1 (ancOf s.anc o))) := by
        rw [List.mem_filter]
        refine ⟨hmr, ?_⟩
        cases hb : memN j' (ancOf s.anc o) with
        | true => exact absurd (memN_iff.1 hb) hjan
        | false => rfl
      refine ⟨hmf, ?_⟩
      obtain ⟨oj', hr', g1, g2⟩ := reread_ok _ hrr _ _ _ hmf
      rw [hoj] at g1
      cases g1
      have hsame := pureOp_same ⟨hce, hca⟩ g2
      subst hsame
      refine ⟨_, g2, ?_⟩
      intro b ob hg
      rw [hideAll_get] at hg
      split at hg
      · cases hg
      · rename_i hne
        exact ⟨by rw [hideAll_next]; exact hdom2 b ob hg, hg, fun x hx e => hne ⟨x, hx, e⟩⟩
  · intro i oi t hi hoi hd
    show (drawPut fr0.nt tsR o v).get t = (drawPut fr0.nt s.ts o v).get t
    rw [drawPut_get, drawPut_get]
    by_cases hc : o.dst = some t ∧ t < fr0.nt
    · rw [if_pos hc, if_pos hc]
    · rw [if_neg hc, if_neg hc]
      rcases hi with hi | rfl
      · exact Q.tr1 i oi t hi hoi hd
      · rw [ho] at hoi
        cases hoi
        have hge : fr0.nt ≤ t := Nat.le_of_not_lt (fun hlt => hc ⟨hd, hlt⟩)
        rw [H.tsw t hge]
        exact Q.rel.wf.1 t hge
  · intro t ht
    rw [drawPut_get, if_neg (fun h => ht j o (.inr rfl) ho h.1)]
    exact Q.tr0 t (fun i oi hi hoi => ht i oi (.inl hi) hoi)
  · intro x hx hnx hD
    have hxm := ((hidm x).1 hx).1
    rcases new1 x.2 hD with hd | hd
    · exact Q.dp x hxm (fun h => hnx (.inl h)) hd
    · have := (H.al x hxm).1; omega
  · intro i hi
    rcases new1 i hi with h | h
    · exact .inl h
    · exact .inr (Nat.le_trans H.nx h)
end
end Go.Am

namespace Go.Am
open Go.RowKit
variable [Inhabited DrP]

theorem HOK.same {E : Env} {h h' : AH} {K : KS} {w : World} (H : HOK E h K w) (hg : ∀ i ob, h'.get i = some ob → h.get i = some ob) (hn : h.next ≤ h'.next) : HOK E h' K w :=
  ⟨fun i o hi => H.obj i o (hg i o hi), fun i o hi => H.nk i o (hg i o hi), fun i j oi oj hi hj => H.inj i j oi oj (hg i oi hi) (hg j oj hj), fun i o hi => Nat.lt_of_lt_of_le (H.dom i o (hg i o hi)) hn, H.kb, fun i o hi => H.im i o (hg i o hi), H.k0⟩

section
variable {tab : Tab} {D : Nat → Prop} {E : Env} {K : KS} {base : List Frame} {frC : Frame} {csC : List Frame} {w : World}
variable {ops : Array Oper} {fr0 : AFrame} {cs : List AFrame} {k : List AItem} {lo : Nat} {s s' : DS} {X : Nat → Prop} {tsR : T AV} {hR : AH} {j : Nat} {l : List Nat} {o : Oper}

theorem RInv.look (H : DInv tab ops fr0.nt fr0.tmps lo s X) (Q : RInv ops fr0 cs k base s X D E K tsR hR l frC csC w)
    (ht : ∀ j o t, X j → ops[j]? = some o → o.dst = some t → s'.ts.get t = s.ts.get t) (hn : s.h.next ≤ s'.h.next)
    (hg : ∀ i ob, (s'.h.get i = some ob ∧ ∀ x ∈ s'.allocs, x.2 = i → X x.1) ↔ (s.h.get i = some ob ∧ ∀ x ∈ s.allocs, x.2 = i → X x.1))
    (ha : ∀ x ∈ s'.allocs, x ∈ s.allocs ∨ s.h.next ≤ x.2) : RInv ops fr0 cs k base s' X D E K tsR { hR with next := s'.h.next } l frC csC w := by
  have hget : ∀ i, ({ hR with next := s'.h.next } : AH).get i = hR.get i := fun _ => rfl
  refine ⟨⟨fun E' he => ?_, fun i hi => ?_, Q.rel.wf⟩, ?_, rfl, ?_, Q.tr0, ?_⟩
  · obtain ⟨g1, g2, g3⟩ := Q.rel.all E' he
    exact ⟨g1.same (fun i ob h => h) (by simp only; rw [Q.hn]; exact hn), g2, g3⟩
  · have := Q.rel.dom i hi
    simp only at this ⊢
    rw [Q.hn] at this
    omega
  · intro i ob
    rw [hget, Q.hr i ob, hg i ob]
  · intro j o t hx ho hd
    rw [Q.tr1 j o t hx ho hd, ht j o t hx ho hd]
  · intro x hx hnx hd
    rcases ha x hx with h | h
    · exact Q.dp x h hnx hd
    · have := Q.rel.dom _ hd
      simp only at this
      rw [Q.hn] at this
      omega

theorem preLt_ok : ∀ (l : List Oper) (k : Nat), preLt k l = true → ∀ j o, l[j]? = some o → ∀ p ∈ preOf o, p < k + j := by
  intro l
  induction l with
  | nil => intro k _ j o h; simp at h
  | cons x l ih =>
    intro k h j o hj p hp
    simp only [preLt, Bool.and_eq_true, List.all_eq_true] at h
    cases j with
    | zero =>
      simp only [List.getElem?_cons_zero, Option.some.injEq] at hj
      subst hj
      have := h.1 p hp
      simpa using this
    | succ j =>
      have := ih (k + 1) h.2 j o (by simpa using hj) p hp
      omega
end

section
variable {tab : Tab} {D : Nat → Prop} {E : Env} {K : KS} {base : List Frame} {frC : Frame} {csC : List Frame} {w : World}
variable {ops : Array Oper} {fr0 : AFrame} {cs : List AFrame} {k : List AItem} {lo : Nat} {X : Nat → Prop} {tsR : T AV} {l : List Nat}

theorem float_look {s s' : DS} {i : Nat} {o : Oper} {hR : AH} (hf : drawFloat tab ops fr0.nt i o s = .ok (some s')) (hi : ops[i]? = some o) (hr : isReady s.anc i o = true) (H : DInv tab ops fr0.nt fr0.tmps lo s X)
    (Q : RInv ops fr0 cs k base s X D E K tsR hR l frC csC w) : ∃ hR', RInv ops fr0 cs k base s' X D E K tsR hR' l frC csC w := by
  obtain ⟨hnone, _⟩ := isReady_ok hr
  have hxi : ¬ X i := fun h => by have := H.cx i h; rw [hnone] at this; cases this
  have hput : ∀ (v : AV) j oj t, X j → ops[j]? = some oj → oj.dst = some t → (drawPut fr0.nt s.ts o v).get t = s.ts.get t := by
    intro v j oj t hx ho hd
    rw [drawPut_get, if_neg]
    rintro ⟨h, _⟩
    have := H.uniq j i oj o t (H.cx j hx) ho hi hd h
    exact hxi (this ▸ hx)
  have hsame : ∀ (v : AV) (s2 : DS), s2.ts = drawPut fr0.nt s.ts o v → s2.h = s.h → s2.allocs = s.allocs → ∃ hR', RInv ops fr0 cs k base s2 X D E K tsR hR' l frC csC w := by
    intro v s2 e1 e2 e3
    refine ⟨_, Q.look H (s' := s2) ?_ (by rw [e2]; exact Nat.le_refl _) (fun i ob => by rw [e2, e3]) (fun x hx => .inl (by rw [← e3]; exact hx))⟩
    intro j oj t hx ho hd
    rw [e1]; exact hput v j oj t hx ho hd
  unfold drawFloat at hf
  obtain ⟨_, hck, hf1⟩ := R.bind_ok.1 hf
  obtain ⟨b, hb, hf2⟩ := R.bind_ok.1 hf1
  clear hf hf1
  cases b with
  | false =>
    simp only [Bool.not_false, if_true] at hf2
    cases hf2
    exact hsame _ _ rfl rfl rfl
  | true =>
    simp only [Bool.not_true, Bool.false_eq_true, if_false] at hf2
    split at hf2
    · cases hf2
    · obtain ⟨⟨u, h1⟩, hp, hf3⟩ := R.bind_ok.1 hf2
      obtain ⟨_, hn, hf4⟩ := R.bind_ok.1 hf3
      obtain ⟨ob, hob, hf5⟩ := R.bind_ok.1 hf4
      cases hf5
      refine ⟨_, Q.look H (hput u) (by simp) ?_ ?_⟩
      · intro i' ob'
        simp only
        rw [AH.get_new]
        by_cases e : i' = s.h.next
        · subst e
          rw [if_pos rfl]
          constructor
          · rintro ⟨_, h2⟩
            exact absurd (h2 _ List.mem_cons_self rfl) hxi
          · rintro ⟨h1, _⟩
            have := H.hd _ _ h1
            omega
        · rw [if_neg e]
          constructor
          · rintro ⟨h1, h2⟩
            exact ⟨h1, fun x hx e' => h2 x (List.mem_cons_of_mem _ hx) e'⟩
          · rintro ⟨h1, h2⟩
            refine ⟨h1, fun x hx e' => ?_⟩
            rcases List.mem_cons.1 hx with rfl | hx
            · exact absurd e'.symm e
            · exact h2 x hx e'
      · intro x hx
        rcases List.mem_cons.1 hx with rfl | hx
        · exact .inr (Nat.le_refl _)
        · exact .inl hx
    · split at hf2
      · rename_i u h1 hm'
        obtain ⟨_, hn, hf3⟩ := R.bind_ok.1 hf2
        cases hf3
        exact hsame _ _ rfl rfl rfl
      · split at hf2
        · rename_i u h1 hp
          cases hf2
          exact hsame _ _ rfl rfl rfl
        · cases hf2

theorem pass_look : ∀ (l' : List Oper) (n : Nat) (s s' : DS) (hR : AH), (∀ j o, l'[j]? = some o → ops[n + j]? = some o) → drawPass tab ops fr0.nt n l' s = .ok s' → DInv tab ops fr0.nt fr0.tmps lo s X →
    RInv ops fr0 cs k base s X D E K tsR hR l frC csC w → ∃ hR', RInv ops fr0 cs k base s' X D E K tsR hR' l frC csC w := by
  intro l'
  induction l' with
  | nil => intro n s s' hR _ h H Q; simp only [drawPass] at h; cases h; exact ⟨hR, Q⟩
  | cons o l' ih =>
    intro n s s' hR hl h H Q
    have hl' : ∀ j o', l'[j]? = some o' → ops[n + 1 + j]? = some o' := by
      intro j o' hj
      have := hl (j + 1) o' (by simpa using hj)
      rw [show n + 1 + j = n + (j + 1) from by omega]; exact this
    simp only [drawPass] at h
    by_cases hr : isReady s.anc n o = true
    · simp only [hr, cond_true] at h
      obtain ⟨x, hx, h1⟩ := R.bind_ok.1 h
      cases x with
      | none => exact ih (n + 1) s s' hR hl' h1 H Q
      | some s1 =>
        have hin : ops[n]? = some o := by simpa using hl 0 o rfl
        obtain ⟨hR1, Q1⟩ := float_look hx hin hr H Q
        exact ih (n + 1) s1 s' hR1 hl' h1 (drawFloat_ok hx hin hr H) Q1
    · have : isReady s.anc n o = false := by simpa using hr
      simp only [this, cond_false] at h
      exact ih (n + 1) s s' hR hl' h H Q
end
end Go.Am

namespace Go.Am
open Go.RowKit
variable [Inhabited DrP]

def Xof (listed : Array Bool) (j : Nat) : Prop := listed.getD j false = true
def unl (n : Nat) (listed : Array Bool) : Nat := ((List.range n).filter fun i => !listed.getD i false).length

theorem filter_drop {p q : Nat → Bool} {i : Nat} : ∀ (l : List Nat), (∀ j, q j = true → p j = true) → i ∈ l → p i = true → q i = false → (l.filter q).length + 1 ≤ (l.filter p).length := by
  intro l
  induction l with
  | nil => intro _ h; cases h
  | cons x l ih =>
    intro hqp hi hp hq
    rcases List.mem_cons.1 hi with rfl | hi
    · rw [List.filter_cons, List.filter_cons, if_pos hp, if_neg (by rw [hq]; simp), List.length_cons]
      have : (l.filter q).length ≤ (l.filter p).length := by
        rw [← List.countP_eq_length_filter, ← List.countP_eq_length_filter]
        exact List.countP_mono_left (fun x _ => hqp x)
      omega
    · have := ih hqp hi hp hq
      rw [List.filter_cons, List.filter_cons]
      by_cases h1 : q x = true
      · rw [if_pos h1, if_pos (hqp x h1)]; simp only [List.length_cons]; omega
      · rw [if_neg h1]
        by_cases h2 : p x = true
        · rw [if_pos h2]; simp only [List.length_cons]; omega
        · rw [if_neg h2]; exact this

theorem Xof_set {listed : Array Bool} {i : Nat} (hi : i < listed.size) : Xof (listed.setIfInBounds i true) = fun j => Xof listed j ∨ j = i := by
  funext j
  apply propext
  unfold Xof
  rw [Array.getD_eq_getD_getElem?, Array.getD_eq_getD_getElem?, Array.getElem?_setIfInBounds]
  by_cases h : i = j
  · subst h
    simp [hi]
  · have : ¬ j = i := fun e => h e.symm
    simp [h, this]
theorem unl_set {n : Nat} {listed : Array Bool} {i : Nat} (hi : i < n) (hs : i < listed.size) (hx : ¬ Xof listed i) : unl n (listed.setIfInBounds i true) + 1 ≤ unl n listed := by
  refine filter_drop _ ?_ (List.mem_range.2 hi) (by unfold Xof at hx; simpa using hx) ?_
  · intro j hj
    have h1 : ¬ Xof (listed.setIfInBounds i true) j := by unfold Xof; simpa using hj
    rw [Xof_set hs] at h1
    have : ¬ Xof listed j := fun h => h1 (.inl h)
    unfold Xof at this
    simpa using this
  · have : Xof (listed.setIfInBounds i true) i := by rw [Xof_set hs]; exact .inr rfl
    unfold Xof at this
    simp [this]
theorem unl_zero {n : Nat} {listed : Array Bool} (h : unl n listed = 0) : ∀ j, j < n → Xof listed j := by
  intro j hj
  unfold unl at h
  have := List.eq_nil_of_length_eq_zero h
  rw [List.filter_eq_nil_iff] at this
  have := this j (List.mem_range.2 hj)
  unfold Xof
  simpa using this
end Go.Am

namespace Go.Am
open Go.RowKit
variable [Inhabited DrP]

section
variable {P : Program} {tab : Tab} (ok : TabOK P tab) {sub : FuncId → List AV → AH → R (List (AV × AH))} (hsub : SubOK P tab sub) (hext : ExtOK P tab)
variable {K : KS} {base : List Frame}
variable {ops : Array Oper} {fr0 : AFrame} {cs : List AFrame} {k : List AItem} {lo : Nat}

def Fin (P : Program) (fr0 : AFrame) (cs : List AFrame) (k : List AItem) (base : List Frame) (K : KS) (lo : Nat) (sF : DS) (D : Nat → Prop) (E : Env) (frC : Frame) (csC : List Frame) (w : World) : Prop :=
  ∃ frC' csC' w' D' E', Steps P (lone frC csC w) (lone frC' csC' w') ∧ Rel D' E' K { fr := { fr0 with tmps := sF.ts, todo := k }, cs, h := sF.h } base frC' csC' w' ∧ Agree D E E' ∧ (∀ i, D i → D' i) ∧ Kept K w w' ∧ (∀ i, D' i → D i ∨ lo ≤ i) ∧ lo ≤ sF.h.next

def Todo (tab : Tab) (sub : FuncId → List AV → AH → R (List (AV × AH))) (ops : Array Oper) (nt : Nat) (s sF : DS) : Prop :=
  (cands s.anc 0 ops.toList = [] ∧ sF = s) ∨ ∃ c o n s2, cands s.anc 0 ops.toList = [(c, o)] ∧ drawEff tab sub ops nt c o s = .ok s2 ∧ drawLoop tab sub ops nt n s2 = .ok sF

theorem loop_todo {nt n : Nat} {s sF : DS} (h : drawLoop tab sub ops nt n s = .ok sF) : ∃ s1, drawPass tab ops nt 0 ops.toList s = .ok s1 ∧ Todo tab sub ops nt s1 sF := by
  cases n with
  | zero => simp only [drawLoop] at h; cases h
  | succ n =>
    simp only [drawLoop] at h
    obtain ⟨s1, h1, h2⟩ := R.bind_ok.1 h
    refine ⟨s1, h1, ?_⟩
    split at h2
    · rename_i hc
      obtain ⟨_, _, h3⟩ := R.bind_ok.1 h2
      cases h3
      exact .inl ⟨hc, rfl⟩
    · rename_i c o hc
      obtain ⟨s2, h3, h4⟩ := R.bind_ok.1 h2
      exact .inr ⟨c, o, n, s2, hc, h3, h4⟩
    · cases h2

include ok hsub hext in
theorem mid (hm : fr0.mode = .run) (hlt : preLt 0 ops.toList = true) : ∀ (fuel t : Nat) (listed : Array Bool) (s sF : DS) (D : Nat → Prop) (E : Env) (tsR : T AV) (hR : AH) (frC : Frame) (csC : List Frame) (w : World),
    listed.size = ops.size → unl ops.size listed ≤ fuel → Todo tab sub ops fr0.nt s sF → DInv tab ops fr0.nt fr0.tmps lo s (Xof listed) →
    RInv ops fr0 cs k base s (Xof listed) D E K tsR hR (Region.linearise.go .any ops fuel t listed []) frC csC w → Fin P fr0 cs k base K lo sF D E frC csC w := by
  -- the end
  have hend : ∀ (listed : Array Bool) (s sF : DS) (D : Nat → Prop) (E : Env) (tsR : T AV) (hR : AH) (frC : Frame) (csC : List Frame) (w : World), (∀ j, j < ops.size → Xof listed j) →
      Todo tab sub ops fr0.nt s sF → DInv tab ops fr0.nt fr0.tmps lo s (Xof listed) → RInv ops fr0 cs k base s (Xof listed) D E K tsR hR [] frC csC w → Fin P fr0 cs k base K lo sF D E frC csC w := by
    intro listed s sF D E tsR hR frC csC w hall htodo H Q
    rcases htodo with ⟨_, rfl⟩ | ⟨c, o, n, s2, hc, _, _⟩
    · have hts : ∀ t, tsR.get t = sF.ts.get t := by
        intro t
        by_cases hw : ∃ (j : Nat) (oj : Oper), ops[j]? = some oj ∧ oj.dst = some t
        · obtain ⟨j, oj, h1, h2⟩ := hw
          exact Q.tr1 j oj t (hall j (Array.getElem?_eq_some_iff.1 h1).1) h1 h2
        · rw [Q.tr0 t (fun j oj _ h1 h2 => hw ⟨j, oj, h1, h2⟩), H.tsC t (fun j oj _ h1 h2 => hw ⟨j, oj, h1, h2⟩)]
      have hst : ∀ E', Go.step P (lone (concF E' { fr0 with tmps := tsR, todo := .inRegion ops [] :: k }) csC w) = .next (lone (concF E' { fr0 with tmps := tsR, todo := k }) csC w) :=
        fun E' => step_lone_go (by simp [stepG, stepG.exec, concF, hm, concM, concI])
      have hconc : ∀ E', concF E' { fr0 with tmps := sF.ts, todo := k } = concF E' { fr0 with tmps := tsR, todo := k } := by
        intro E'
        have : concTmps E' sF.ts fr0.nt = concTmps E' tsR fr0.nt := by
          unfold concTmps tmpAt
          simp only [hts]
        simp only [concF, this]
      have hfr := (Q.rel.all E (Agree.refl _ _)).2.1
      simp only at hfr
      refine ⟨concF E { fr0 with tmps := tsR, todo := k }, csC, w, D, E, .one (by rw [← hfr]; exact hst E), ⟨fun E' he => ?_, fun i hi => ?_, ?_, Q.rel.wf.2⟩, Agree.refl _ _, fun _ h => h, Kept.refl K w, fun i hi => .inl hi, H.nx⟩
      · obtain ⟨g1, g2, g3⟩ := Q.rel.all E' he
        refine ⟨g1.same (fun i ob h => (Q.hr i ob).2 ⟨h, fun x hx _ => ?_⟩) (by simp only; rw [Q.hn]; exact Nat.le_refl _), ?_, g3⟩
        · obtain ⟨o, ho⟩ := H.op _ (H.al x hx).2.1
          exact hall _ (Array.getElem?_eq_some_iff.1 ho).1
        · simp only
          rw [hconc E']
          have h1 := hst E'
          simp only at g2
          rw [g2, ← hfr, hst E] at h1
          exact (lone_inj (by simpa using h1)).1.symm
      · have := Q.rel.dom i hi
        simp only at this ⊢
        rw [Q.hn] at this; exact this
      · intro t ht
        have := Q.rel.wf.1 t ht
        simp only at this ⊢
        rw [← hts t]; exact this
    · have hcm : (c, o) ∈ cands s.anc 0 ops.toList := by rw [hc]; exact List.mem_cons_self
      obtain ⟨j', h1, h2, h3⟩ := cands_sound _ _ _ _ _ hcm
      have hlt' : c < ops.size := by
        have := (List.getElem?_eq_some_iff.1 h2).1
        simp at this; omega
      have := H.cx c (hall c hlt')
      rw [(isReady_ok h3).1] at this
      cases this
  intro fuel
  induction fuel with
  | zero =>
    intro t listed s sF D E tsR hR frC csC w hsz hu htodo H Q
    exact hend listed s sF D E tsR hR frC csC w (unl_zero (by omega)) htodo H (by simpa [Region.linearise.go] using Q)
  | succ fuel ih =>
    intro t listed s sF D E tsR hR frC csC w hsz hu htodo H Q
    simp only [Region.linearise.go] at Q
    change RInv ops fr0 cs k base s (Xof listed) D E K tsR hR (match (Region.ready .any ops listed)[t % (Region.ready .any ops listed).length]? with
      | some i => Region.linearise.go .any ops fuel (t / (Region.ready .any ops listed).length) (listed.setIfInBounds i true) [i]
      | none => [].reverse) frC csC w at Q
    have hget : ∀ j, j < ops.size → (listed.getD j true = false ↔ ¬ Xof listed j) := by
      intro j hj
      unfold Xof
      have : j < listed.size := by omega
      simp [Array.getD, this]
    cases hi : (Region.ready .any ops listed)[t % (Region.ready .any ops listed).length]? with
    | none =>
      rw [hi] at Q
      have hnil : Region.ready .any ops listed = [] := by
        cases hr : Region.ready .any ops listed with
        | nil => rfl
        | cons x xs =>
          rw [hr] at hi
          have hlt : t % (x :: xs).length < (x :: xs).length := Nat.mod_lt _ (by simp)
          rw [List.getElem?_eq_none_iff] at hi
          omega
      have hall : ∀ j, j < ops.size → Xof listed j := by
        intro j
        induction j using Nat.strongRecOn with
        | _ j ihj =>
          intro hj
          by_cases hx : Xof listed j
          · exact hx
          · exfalso
            have hm' : j ∈ Region.ready .any ops listed := by
              rw [mem_ready]
              refine ⟨(hget j hj).2 hx, ops[j], Array.getElem?_eq_getElem hj, ?_⟩
              intro e he hb
              have hp : e.on ∈ preOf ops[j] := List.mem_map.2 ⟨e, List.mem_filter.2 ⟨by simpa using he, hb⟩, rfl⟩
              have hlt' := preLt_ok ops.toList 0 hlt j ops[j] (by simp [hj]) e.on hp
              exact ihj e.on (by omega) (by omega)
            rw [hnil] at hm'
            cases hm'
      exact hend listed s sF D E tsR hR frC csC w hall htodo H Q
    | some i =>
      rw [hi] at Q
      simp only at Q
      rw [linearise_go_acc, List.reverse_singleton, List.singleton_append] at Q
      obtain ⟨hl1, o, ho, hdeps⟩ := mem_ready.1 (List.mem_of_getElem? hi)
      have hin : i < ops.size := (Array.getElem?_eq_some_iff.1 ho).1
      have hx := (hget i hin).1 hl1
      have hready : ∀ p ∈ preOf o, Xof listed p := by
        intro p hp
        obtain ⟨e, he, rfl⟩ := List.mem_map.1 hp
        obtain ⟨he1, he2⟩ := List.mem_filter.1 he
        exact hdeps e (by simpa using he1) he2
      have hsz' : (listed.setIfInBounds i true).size = ops.size := by simp [hsz]
      have hu' : unl ops.size (listed.setIfInBounds i true) ≤ fuel := by
        have := unl_set hin (by omega) hx; omega
      have hX' : Xof (listed.setIfInBounds i true) = fun j => Xof listed j ∨ j = i := Xof_set (by omega)
      have hfin : ∀ (s' : DS), Todo tab sub ops fr0.nt s' sF → DInv tab ops fr0.nt fr0.tmps lo s' (fun j => Xof listed j ∨ j = i) →
          Comes1 P ops fr0 cs k base s' (fun j => Xof listed j ∨ j = i) D E K lo (Region.linearise.go .any ops fuel (t / (Region.ready .any ops listed).length) (listed.setIfInBounds i true) []) frC csC w → Fin P fr0 cs k base K lo sF D E frC csC w := by
        intro s' htd H' hc
        obtain ⟨tsR', hR', frC', csC', w', D', E', c1, c2, c3, c4, c5, c6⟩ := hc
        obtain ⟨frF, csF, wF, DF, EF, f1, f2, f3, f4, f5, f6, f7⟩ := ih _ (listed.setIfInBounds i true) s' sF D' E' tsR' hR' frC' csC' w' hsz' hu' htd (by rw [hX']; exact H') (by rw [hX']; exact c2)
        exact ⟨frF, csF, wF, DF, EF, c1.trans f1, f2, c3.trans f3 c4, fun x hx => f4 x (c4 x hx), c5.trans f5, fun x hx => (f6 x hx).elim (c6 x) .inr, f7⟩
      by_cases hC : (s.anc.get i).isSome = true
      · exact hfin s htodo (H.come hC ho hready) (exec_pend ok H Q hm ho hC hx hready)
      · have hr : isReady s.anc i o = true := by
          unfold isReady
          simp only [Bool.and_eq_true, List.all_eq_true]
          exact ⟨by simpa using hC, fun p hp => H.cx p (hready p hp)⟩
        have hcm : (i, o) ∈ cands s.anc 0 ops.toList := by
          have := cands_ok ops.toList 0 s.anc i o (by simpa using ho) (by simpa using hr)
          simpa using this
        rcases htodo with ⟨hc, _⟩ | ⟨c, o', n, s2, hc, hd, hloop⟩
        · rw [hc] at hcm; cases hcm
        · rw [hc] at hcm
          rcases List.mem_cons.1 hcm with e | hcm
          · cases e
            obtain ⟨H2, tsR', hR', frC', csC', w', D', E', c1, c2, c3, c4, c5, c6⟩ := exec_eff ok hsub hext H Q hm ho hr hd hready
            obtain ⟨s3, hpass, htd3⟩ := loop_todo hloop
            have hpl : ∀ j o, ops.toList[j]? = some o → ops[0 + j]? = some o := by
              intro j o hj; simpa using hj
            obtain ⟨hR3, Q3⟩ := pass_look ops.toList 0 s2 s3 hR' hpl hpass H2 c2
            exact hfin s3 htd3 (drawPass_ok ops.toList 0 s2 s3 hpl hpass H2) ⟨tsR', hR3, frC', csC', w', D', E', c1, Q3, c3, c4, c5, c6⟩
          · cases hcm
end
end Go.Am

namespace Go.Am
open Go.RowKit
variable [Inhabited DrP]

section
variable {P : Program} {tab : Tab} (ok : TabOK P tab) {sub : FuncId → List AV → AH → R (List (AV × AH))} (hsub : SubOK P tab sub) (hext : ExtOK P tab)

theorem Xof_none (n j : Nat) : ¬ Xof (Array.replicate n false) j := by
  unfold Xof
  rw [Array.getD_eq_getD_getElem?, Array.getElem?_replicate]
  split <;> simp

include ok hsub hext in
theorem draw_sound (hmix : P.follows .mixedOrders = true) : DrawOK P tab sub := by
  intro fr cs h id ops k ts h' hm ht hd D E K base frC csC w hR
  unfold draw at hd
  obtain ⟨_, hlt, hd1⟩ := R.bind_ok.1 hd
  obtain ⟨sF, hloop, hd2⟩ := R.bind_ok.1 hd1
  cases hd2
  have hlt := R.check_ok.1 hlt
  let s0 : DS := { ts := fr.tmps, h, anc := .e, reads := [], allocs := [] }
  let ord := w.tape w.drawn (.order frC.fn id)
  let l := Region.linearise.go .any ops ops.size ord (Array.replicate ops.size false) []
  have hstep : ∀ E', Agree D E E' → Go.step P (lone frC csC w) = .next (lone (concF E' { fr with tmps := fr.tmps, todo := .inRegion ops l :: k }) csC w.drew) := by
    intro E' he
    have e1 := (hR.all E' he).2.1
    simp only at e1
    refine step_lone_go ?_
    have hmC : frC.mode = .run := by rw [← e1]; simp [concF, hm, concM]
    have htC : frC.todo = .code (.region id ops true) :: k.map (concI E') := by rw [← e1]; simp [concF, ht, concI]
    have hrun : (choose (.order frC.fn id)).run P w = .ok ord w.drew := by
      simp only [choose, Sem.run, Question.forced, Bool.false_eq_true, if_false, Question.cut]
      rfl
    have hsch : Region.schedule (P.follows .mixedOrders) ops ord = l := by
      simp only [Region.schedule, hmix, Bool.true_or, if_true]
      rfl
    have hgoal : concF E' { fr with tmps := fr.tmps, todo := .inRegion ops l :: k } = { frC with todo := .inRegion ops l :: k.map (concI E') } := by
      rw [← e1]; rfl
    rw [hgoal]
    unfold stepG stepG.exec
    simp only [hmC, htC, Bool.not_true, Bool.false_eq_true, if_false, hrun, hsch, GStep.bare_go]
  have hdom := (hR.all E (Agree.refl _ _)).1.dom
  have H0 : DInv tab ops fr.nt fr.tmps h.next s0 (Xof (Array.replicate ops.size false)) := by
    have hnone : ∀ j, s0.anc.get j = none := fun _ => rfl
    refine ⟨fun j hj => absurd hj (Xof_none _ _), fun j a hj => absurd hj (Xof_none _ _), ?_, ?_, ?_, fun _ _ => rfl, ?_, fun x hx => (by cases hx), Nat.le_refl _, hR.wf.1, fun x hx => (by cases hx), hdom⟩
    · intro j hj; rw [hnone] at hj; cases hj
    · intro j a o hj; rw [hnone] at hj; cases hj
    · intro i j oi oj d hi; rw [hnone] at hi; cases hi
    · intro j hj; rw [hnone] at hj; cases hj
  have Q0 : RInv ops fr cs k base s0 (Xof (Array.replicate ops.size false)) D E K fr.tmps h l (concF E { fr with tmps := fr.tmps, todo := .inRegion ops l :: k }) csC w.drew := by
    refine ⟨⟨fun E' he => ?_, hR.dom, hR.wf⟩, fun i ob => ⟨fun h => ⟨h, fun x hx => (by cases hx)⟩, fun h => h.1⟩, rfl, fun j o t hx => absurd hx (Xof_none _ _), fun _ _ => rfl, fun x hx => by cases hx⟩
    obtain ⟨g1, g2, g3⟩ := hR.all E' he
    refine ⟨g1.drew, ?_, g3⟩
    have h1 := hstep E' he
    rw [hstep E (Agree.refl _ _)] at h1
    exact (lone_inj (by simpa using h1)).1.symm
  obtain ⟨s1, hpass, htodo⟩ := loop_todo hloop
  have hpl : ∀ j o, ops.toList[j]? = some o → ops[0 + j]? = some o := by
    intro j o hj; simpa using hj
  obtain ⟨hR1, Q1⟩ := pass_look ops.toList 0 s0 s1 h hpl hpass H0 Q0
  have H1 := drawPass_ok ops.toList 0 s0 s1 hpl hpass H0
  obtain ⟨frC', csC', w', D', E', f1, f2, f3, f4, f5, f6, f7⟩ := mid ok hsub hext hm hlt ops.size ord (Array.replicate ops.size false) s1 sF D E fr.tmps hR1 _ csC w.drew (by simp)
    (by unfold unl; have := List.length_filter_le (fun i => !(Array.replicate ops.size false).getD i false) (List.range ops.size); simpa using this) htodo H1 Q1
  exact ⟨frC', csC', w', E', D', Steps.head (hstep E (Agree.refl _ _)) f1, f2, f3, f4, (Kept.drew K w).trans f5, f7, f6⟩
end
end Go.Am

namespace Go.Am
open Go.RowKit
variable [Inhabited DrP]

def extFn (tag : Nat) (fn : Func) : Array Value → Sem Value :=
  match tag with
  | 1 => Extern.BytealgCompare.compare
  | 2 => Extern.AbiNoEscape.same
  | 3 => Extern.BytealgMakeNoZero.makeNoZero fn.params fn.resultTypes
  | 5 => Extern.BytealgIndexByte.indexByte
  | _ => Extern.SlicesOverlaps.overlaps fn.params fn.resultTypes
def ExtTab (P : Program) (tab : Tab) : Prop := ∀ f tag fn, tab.ext.get f = some tag → tab.fns.get f = some fn → Extern.findNext fn = none ∧ Extern.find fn = some (extFn tag fn)

theorem mnz_def (ps rs : Array TypeId) (n : Int) : Extern.BytealgMakeNoZero.makeNoZero ps rs #[.int .i64 n] = (do
    let some t := rs[0]? | stuck "bytealg.MakeNoZero: no result type"
    let .slice elem ← underlying t | stuck "bytealg.MakeNoZero: slice type expected"
    if n < 0 || n > 2 ^ 48 then runtimePanic (.error "makeslice: len out of range")
    let cap ← choose (.appendCap n.toNat 0 elem)
    askRoom cap
    let bytes ← choose (.extern "internal/bytealg.MakeNoZero.bytes" 0)
    let a ← Go.newRow elem (Extern.BytealgMakeNoZero.digits cap bytes #[])
    pure (.slice (some a) n.toNat cap)) := rfl
theorem ov_def (ps rs : Array TypeId) (a b : Option Addr) (la lb ca cb : Nat) : Extern.SlicesOverlaps.overlaps ps rs #[.slice a la ca, .slice b lb cb] = (do
    let some t := ps[0]? | stuck "slices.overlaps: no parameter types"
    let .slice elem ← underlying t | stuck "slices.overlaps: slice type expected"
    let size ← sizeOf elem
    match a, b with
    | some a, some b =>
      if la = 0 ∨ lb = 0 ∨ size = 0 then pure (.bool false)
      else if a.block != b.block && (← Go.frozen a) && (← Go.frozen b) then unsupported .addressObserved
      else do
        if a.block != b.block then do
          noView a; noView b
          if ← mayBeOne a b then return .bool ((← choose (.extern "sameAddr.stringBytes" 2)) == 1)
        pure (.bool (a.block == b.block && a.off < b.off + lb * size && b.off < a.off + la * size))
    | _, _ => pure (.bool false)) := rfl
theorem ib_def (b c : Value) : Extern.BytealgIndexByte.indexByte #[b, c] = (do
    let b ← Extern.Bytes.bytesOf b
    let c ← Extern.Bytes.asByte c
    match (List.range b.size).find? fun i => b[i]! == c with
    | some i => pure (Go.goInt i)
    | none => pure (Go.goInt (-1))) := rfl
theorem digits_size : ∀ (n t : Nat) (acc : Array Value), (Extern.BytealgMakeNoZero.digits n t acc).size = acc.size + n := by
  intro n
  induction n with
  | zero => intro t acc; rfl
  | succ n ih => intro t acc; simp only [Extern.BytealgMakeNoZero.digits, ih, Array.size_push]; omega

section
variable {P : Program} {tab : Tab} (ok : TabOK P tab) (het : ExtTab P tab)
include ok het
theorem ext_ok : ExtOK P tab := by
  intro f fn args h v h' hfn hb hx w
  have hP := ok.fns f fn hfn
  unfold externAt at hx
  split at hx
  · rename_i tag htag
    obtain ⟨hn, he⟩ := het f tag fn htag hfn
    have hrun : ∀ a (w : World), (callFunc f a).run P w = ((extFn tag fn a).run P w).andThen fun v w' => .ok (.value v) w' := fun a w => run_callFunc_extern hP (ok.nng f fn hfn) (by rw [hb]; rfl) hn he a w
    unfold extern at hx
    split at hx
    · cases hx
      refine ⟨(0, 0), fun E K H _ => ⟨by omega, w, ?_, H, Kept.refl K w⟩⟩
      rw [hrun]
      rfl
    · cases hx
      refine ⟨(0, 0), fun E K H _ => ⟨by omega, w, ?_, H, Kept.refl K w⟩⟩
      rw [hrun]
      rfl
    · -- MakeNoZero
      rename_i n
      obtain ⟨t, ht, hx1⟩ := R.bind_ok.1 hx
      obtain ⟨d, hd, hx2⟩ := R.bind_ok.1 hx1
      have hPt := ok.und t d (R.of_ok.1 hd)
      have ht := R.of_ok.1 ht
      split at hx2
      · rename_i e
        obtain ⟨z, hz, hx2'⟩ := R.bind_ok.1 hx2
        obtain ⟨_, hle, hx3⟩ := R.bind_ok.1 hx2'
        obtain ⟨⟨h1, b⟩, hrow, hx4⟩ := R.bind_ok.1 hx3
        cases hx4
        have hle := R.check_ok.1 hle
        simp only [Bool.and_eq_true] at hle
        have hz1 := Nat.eq_of_beq_eq_true hle.2
        have hle := Nat.le_of_ble_eq_true hle.1
        subst hz1
        obtain ⟨sz, hsz, rfl, rfl⟩ := newRow_ok hrow
        rw [hz] at hsz
        cases hsz
        refine ⟨(w.heap.size, grownCap w n 0 e), fun E K H hE => ?_⟩
        obtain ⟨hE1, hE2⟩ := hE (by simp)
        simp only at hE1 hE2
        refine ⟨by simp, w.drew.drew.alloc (.cells (Extern.BytealgMakeNoZero.digits (grownCap w n 0 e) ((Question.extern "internal/bytealg.MakeNoZero.bytes" 0).cut (w.drew.tape w.drew.drawn (.extern "internal/bytealg.MakeNoZero.bytes" 0))) #[]) e), ?_, ?_, ?_⟩
        · rw [hrun]
          have h1 : ¬ ((n : Int) < 0) := by omega
          have h2 : ¬ ((n : Int) > 2 ^ 48) := by
            have : (2 : Int) ^ 48 = 281474976710656 := by decide
            rw [this]; omega
          have hq : (Question.appendCap n 0 e).cut (w.tape w.drawn (.appendCap n 0 e)) = grownCap w n 0 e := rfl
          have hor : ((decide ((n : Int) < 0)) || (decide ((n : Int) > 2 ^ 48))) = false := by rw [decide_eq_false h1, decide_eq_false h2]; rfl
          show (((Extern.BytealgMakeNoZero.makeNoZero fn.params fn.resultTypes #[.int .i64 (n : Int)]).run P w).andThen fun v w' => .ok (Next.value v) w') = _
          rw [mnz_def]
          simp only [ht, Sem.run_bind, underlying, run_program, Result.andThen_ok, hPt, Sem.run_pure, hor, Bool.false_eq_true, if_false, run_choose, Question.forced, Int.toNat_natCast, hq, World.drew_eq, run_askRoom, run_newRow]
          simp [conc, Cap.val, hE1, hE2]
        · exact H.drew.drew.new (by simpa using hE1) ⟨_, _, rfl, ⟨_, rfl⟩, by simp [digits_size, hE2], rfl⟩
        · exact ((Kept.drew K w).trans (Kept.drew K w.drew)).trans (Kept.alloc (by simpa using H.kb) _)
      · cases hx2
    · -- overlaps
      rename_i x y
      obtain ⟨t, ht, hx1⟩ := R.bind_ok.1 hx
      obtain ⟨d, hd, hx2⟩ := R.bind_ok.1 hx1
      have hPt := ok.und t d (R.of_ok.1 hd)
      have ht := R.of_ok.1 ht
      split at hx2
      · rename_i e
        obtain ⟨sz, hsz, hx3⟩ := R.bind_ok.1 hx2
        obtain ⟨_, hck, hx4⟩ := R.bind_ok.1 hx3
        clear hx hx1 hx2 hx3
        have hs0 : sz ≠ 0 := by
          intro e; subst e; simp [R.check] at hck
        have hnone : ∀ (E : Env) (a b : Option Addr) (la lb ca cb : Nat), (a = none ∨ b = none) → ((extFn 4 fn #[.slice a la ca, .slice b lb cb]).run P w) = .ok (.bool false) w := by
          intro E a b la lb ca cb hab
          show (Extern.SlicesOverlaps.overlaps fn.params fn.resultTypes #[.slice a la ca, .slice b lb cb]).run P w = _
          rw [ov_def]
          simp only [ht, Sem.run_bind, underlying, run_program, Result.andThen_ok, hPt, Sem.run_pure, siz_run ok hsz]
          rcases hab with rfl | rfl
          · rfl
          · cases a <;> rfl
        split at hx4
        · cases hx4
          refine ⟨(0, 0), fun E K H _ => ⟨by omega, w, ?_, H, Kept.refl K w⟩⟩
          rw [hrun]
          simp only [concL_cons, concL_nil, conc]
          rw [hnone E _ _ _ _ _ _ (.inl rfl)]
          rfl
        · cases hx4
          refine ⟨(0, 0), fun E K H _ => ⟨by omega, w, ?_, H, Kept.refl K w⟩⟩
          rw [hrun]
          simp only [concL_cons, concL_nil, conc]
          rw [hnone E _ _ _ _ _ _ (.inl rfl)]
          rfl
        · cases hx4
          refine ⟨(0, 0), fun E K H _ => ⟨by omega, w, ?_, H, Kept.refl K w⟩⟩
          rw [hrun]
          simp only [concL_cons, concL_nil, conc]
          rw [hnone E _ _ _ _ _ _ (.inr rfl)]
          rfl
        · rename_i a i n ca b j m cb
          split at hx4
          · rename_i ha hb'
            have hsame : h' = h := by
              cases hc : (Nat.beq n 0 || Nat.beq m 0) <;> rw [hc] at hx4 <;> cases hx4 <;> rfl
            subst hsame
            refine ⟨(0, 0), fun E K H _ => ⟨by omega, w, ?_, H, Kept.refl K w⟩⟩
            rw [hrun]
            simp only [concL_cons, concL_nil, conc]
            have hgo : ((extFn 4 fn #[.slice (some ⟨E.blk a, i, none⟩) n (ca.val (E.cap a)), .slice (some ⟨E.blk b, j, none⟩) m (cb.val (E.cap b))]).run P w) = .ok (conc E v) w := by
              show (Extern.SlicesOverlaps.overlaps fn.params fn.resultTypes #[.slice (some ⟨E.blk a, i, none⟩) n (ca.val (E.cap a)), .slice (some ⟨E.blk b, j, none⟩) m (cb.val (E.cap b))]).run P w = _
              rw [ov_def]
              simp only [ht, Sem.run_bind, underlying, run_program, Result.andThen_ok, hPt, Sem.run_pure, siz_run ok hsz]
              by_cases hz : n = 0 ∨ m = 0
              · rw [if_pos (by rcases hz with h | h <;> simp [h])]
                have : (Nat.beq n 0 || Nat.beq m 0) = true := by
                  rcases hz with rfl | rfl <;> simp
                rw [this] at hx4
                cases hx4
                rfl
              · rw [if_neg (by omega)]
                have h1 : Nat.beq n 0 = false := by
                  cases hb : Nat.beq n 0
                  · rfl
                  · exact absurd (.inl (Nat.eq_of_beq_eq_true hb)) hz
                have h2 : Nat.beq m 0 = false := by
                  cases hb : Nat.beq m 0
                  · rfl
                  · exact absurd (.inr (Nat.eq_of_beq_eq_true hb)) hz
                rw [h1, h2] at hx4
                cases hx4
                have hfa := rw_frozen H ha i
                have hfb := rw_frozen H hb' j
                have hfrz : (Go.frozen ⟨E.blk a, i, none⟩).run P w = .ok false w := by simp [Go.frozen, Sem.run, hfa]
                by_cases hab : a = b
                · subst hab
                  simp [conc]
                  congr 1 <;> (rw [Bool.eq_iff_iff]; simp)
                · have hne : E.blk a ≠ E.blk b := fun e => hab (H.inj a b _ _ ha hb' (by simp [AO.ro]) e)
                  have hb0 : Nat.beq a b = false := by
                    cases hb : Nat.beq a b
                    · rfl
                    · exact absurd (Nat.eq_of_beq_eq_true hb) hab
                  simp [conc, hne, hb0, hfrz, noView_run H ha, noView_run H hb', mayBeOne_run H ha hb']
            rw [hgo]
            rfl
          · cases hx4
        · cases hx4
      · cases hx2
    · -- IndexByteString
      rename_i a c
      cases hx
      refine ⟨(0, 0), fun E K H _ => ⟨by omega, w, ?_, H, Kept.refl K w⟩⟩
      rw [hrun]
      have hgo : (extFn 5 fn #[.string ⟨a.toArray⟩, .int .u8 c]).run P w = .ok (.int .i64 (ixByte ⟨a.toArray⟩ c.toNat.toUInt8)) w := by
        show (Extern.BytealgIndexByte.indexByte #[.string ⟨a.toArray⟩, .int .u8 c]).run P w = _
        rw [ib_def]
        unfold ixByte
        simp only [Extern.Bytes.bytesOf, Extern.Bytes.asByte, Sem.run_bind, Sem.run_pure, Result.andThen_ok]
        generalize List.find? (fun i => (ByteArray.mk a.toArray)[i]! == c.toNat.toUInt8) (List.range (ByteArray.mk a.toArray).size) = r
        cases r <;> rfl
      simp only [concL_cons, concL_nil, conc]
      rw [hgo]
      rfl
    · cases hx
  · cases hx
end
end Go.Am

namespace Go.Am
open Go.RowKit

def T.reval {α : Type} : (Nat → Option α) → T α → T α
  | _, .e => .e
  | f, .n v l r => .n (match v with | none => none | some _ => f 0) (T.reval (fun k => f (2 * k + 1)) l) (T.reval (fun k => f (2 * k + 2)) r)
def T.all {α : Type} (p : α → Bool) : T α → Bool
  | .e => true
  | .n v l r => (match v with | none => true | some a => p a) && T.all p l && T.all p r

theorem T.reval_ok {α : Type} : ∀ (t : T α) (f : Nat → Option α), T.reval f t = t → ∀ k v, t.get k = some v → f k = some v := by
  intro t
  induction t with
  | e => intro f _ k v h; simp [T.get_e] at h
  | n x l r ihl ihr =>
    intro f h k v hk
    simp only [T.reval, T.n.injEq] at h
    obtain ⟨h1, h2, h3⟩ := h
    rw [T.get_n] at hk
    split at hk
    · rename_i h0
      subst h0
      subst hk
      exact h1
    · split at hk
      · have := ihl _ h2 _ _ hk
        rw [show 2 * (k / 2) + 1 = k from by omega] at this
        exact this
      · have := ihr _ h3 _ _ hk
        rw [show 2 * (k / 2 - 1) + 2 = k from by omega] at this
        exact this
theorem T.all_ok {α : Type} {p : α → Bool} : ∀ (t : T α), T.all p t = true → ∀ k v, t.get k = some v → p v = true := by
  intro t
  induction t with
  | e => intro _ k v h; simp [T.get_e] at h
  | n x l r ihl ihr =>
    intro h k v hk
    simp only [T.all, Bool.and_eq_true] at h
    obtain ⟨⟨h1, h2⟩, h3⟩ := h
    rw [T.get_n] at hk
    split at hk
    · subst hk; exact h1
    · split at hk
      · exact ihl h2 _ _ hk
      · exact ihr h3 _ _ hk

theorem TabOK.of {P : Program} {tab : Tab} (h1 : tab.und.reval P.underlying = tab.und) (h2 : tab.siz.reval (fun t => (P.info? t).map (·.size)) = tab.siz) (h3 : tab.byt.reval (fun t => (P.info? t).map (·.bytes)) = tab.byt)
    (h4 : tab.zer.reval (fun t => ((P.info? t).bind (·.zero)).map ofConst) = tab.zer) (h5 : tab.agg.reval (fun t => (P.underlying t).map aggOf) = tab.agg) (h6 : tab.held.reval (fun t => some (P.stoodInHeld t)) = tab.held)
    (h7 : tab.grd.reval (fun t => some (P.eqGuardType P.depth t)) = tab.grd) (h8 : tab.fns.reval (fun f => P.funcs[f]?) = tab.fns) (h9 : tab.fns.all (fun fn => !(fn.name == "runtime.NumGoroutine")) = true) : TabOK P tab := by
  refine ⟨T.reval_ok _ _ h1, ?_, ?_, ?_, ?_, ?_, ?_, T.reval_ok _ _ h8, ?_⟩
  · intro t n h
    have := T.reval_ok _ _ h2 t n h
    simpa [Option.map_eq_some_iff] using this
  · intro t n h
    have := T.reval_ok _ _ h3 t n h
    simpa [Option.map_eq_some_iff] using this
  · intro t z h
    have := T.reval_ok _ _ h4 t z h
    simp only [Option.map_eq_some_iff, Option.bind_eq_some_iff] at this
    obtain ⟨v, ⟨i, hi, hv⟩, rfl⟩ := this
    exact ⟨i, hi, fun E => by rw [conc_ofConst]; exact hv⟩
  · intro t b h
    have := T.reval_ok _ _ h5 t b h
    simpa [Option.map_eq_some_iff] using this
  · intro t b h
    have := T.reval_ok _ _ h6 t b h
    simpa using this
  · intro t b h
    have := T.reval_ok _ _ h7 t b h
    simpa using this
  · intro f fn h
    have := T.all_ok _ h9 f fn h
    simpa using this

theorem ExtTab.of {P : Program} {tab : Tab} (l : List (Nat × Nat)) (hl : ∀ f tag, tab.ext.get f = some tag → (f, tag) ∈ l) (hf : ∀ x ∈ l, ∀ fn, tab.fns.get x.1 = some fn → Extern.findNext fn = none ∧ Extern.find fn = some (extFn x.2 fn)) : ExtTab P tab :=
  fun f tag fn h1 h2 => hf (f, tag) (hl f tag h1) fn h2
end Go.Am

namespace Go.Am
open Go.RowKit
def allTrue : R (List (AV × AH)) → Bool
  | .ok l => l.all fun x => match x.1 with | .bool b => b | _ => false
  | .no _ => false
theorem allTrue_ok {r : R (List (AV × AH))} (h : allTrue r = true) : ∃ outs, r = .ok outs ∧ ∀ v h', (v, h') ∈ outs → v = .bool true := by
  cases r with
  | no w => cases h
  | ok l =>
    refine ⟨l, rfl, fun v h' hm => ?_⟩
    have := List.all_eq_true.1 h (v, h') hm
    simp only at this
    split at this
    · rw [this]
    · cases this

def emptyH : AH := { t := .e, next := 0 }
theorem empty_ok (E : Env) (K : KS) (w : World) (hK : ∀ b, K b → b < w.heap.size) (hk0 : ∀ b, b < K.b → K b) : HOK E emptyH K w := by
  have h0 : ∀ i, emptyH.get i = none := fun i => rfl
  refine ⟨fun i o h => ?_, fun i o h => ?_, fun i j oi oj h => ?_, fun i o h => ?_, hK, fun i o h => ?_, hk0⟩ <;> (rw [h0] at h; cases h)
def extOf : List (Nat × Nat) → T Nat
  | [] => .e
  | (f, t) :: l => (extOf l).set f (some t)
theorem extOf_mem : ∀ (l : List (Nat × Nat)) (f tag : Nat), (extOf l).get f = some tag → (f, tag) ∈ l := by
  intro l
  induction l with
  | nil => intro f tag h; simp [extOf, T.get_e] at h
  | cons x l ih =>
    intro f tag h
    obtain ⟨a, b⟩ := x
    simp only [extOf, T.get_set] at h
    split at h
    · rename_i e
      subst e
      cases h
      exact List.mem_cons_self
    · exact List.mem_cons_of_mem _ (ih f tag h)
theorem ExtTab.list {P : Program} {tab : Tab} (l : List (Nat × Nat)) (hl : tab.ext = extOf l) (hf : ∀ x ∈ l, ∃ fn, tab.fns.get x.1 = some fn ∧ Extern.findNext fn = none ∧ Extern.find fn = some (extFn x.2 fn)) : ExtTab P tab :=
  ExtTab.of l (fun f tag h => extOf_mem l f tag (by rw [← hl]; exact h)) (fun x hx fn h => by
    obtain ⟨fn', h1, h2⟩ := hf x hx
    rw [h1] at h
    cases h
    exact h2)
end Go.Am

namespace Go.Sy
open Go.Am
universe u v

inductive SV : Type 1 where
  | bool (b : Bool)
  | int (k : IntKind) (n : Int)
  | str (s : List UInt8)
  | nilp
  | ptr (b off : Nat)                                                  -- into a block of known cells
  | eptr (b i off : Nat)                                               -- into element i of a growing row
  | rptr (cs : List SV) (off : Nat)                                    -- into cells that stay
  | nils
  | sl (b off len cap : Nat)                                           -- of a block of known cells
  | own (b : Nat)                                                      -- a growing row, all of it
  | lst (X : Type) (L : List X) (enc : X → List SV)                    -- a list that stays
  | nilm
  | map (b : Nat)
  | nilf
  | fn (f : FuncId) (first captured : List SV)
  | agg (cs : List SV)
  | tup (vs : List SV)
  | any                                                                -- nothing is known

inductive SO : Type 1 where
  | cells (cs : List SV) (elem : TypeId)
  | arr (X : Type) (L : List X) (enc : X → List SV) (elem : TypeId)

def so {α : Type u} (x : Option α) (k : α → Prop) : Prop := match x with | some a => k a | none => False
def br (b : Bool) (p q : Prop) : Prop := match b with | true => p | false => q
def ck (b : Bool) (p : Prop) : Prop := match b with | true => p | false => False

def look {α : Type u} : List (Nat × α) → Nat → Option α
  | [], _ => none
  | (k, v) :: l, n => bif Nat.beq k n then some v else look l n
abbrev Fr := List (Nat × SV)
structure SH : Type 1 where
  next : Nat
  os : List (Nat × Option SO)
def SH.get (h : SH) (b : Nat) : Option SO := match look h.os b with | some (some o) => some o | _ => none
def SH.set : SH → Nat → Option SO → SH
  | ⟨n, os⟩, b, o => ⟨n, (b, o) :: os⟩
def SH.new : SH → SO → SH
  | ⟨n, os⟩, o => ⟨n + 1, (n, some o) :: os⟩
def Fr.of : List SV → Nat → Fr
  | [], _ => []
  | v :: l, n => (n, v) :: Fr.of l (n + 1)

def ofCellS : Value → Option SV
  | .bool b => some (.bool b)
  | .int k n => some (.int k n)
  | .string s => some (.str s.data.toList)
  | .pointer none => some .nilp
  | .slice none 0 0 => some .nils
  | .map none => some .nilm
  | .nilFunc => some .nilf
  | _ => none
def mapO {α : Type u} {β : Type v} (f : α → Option β) : List α → Option (List β)
  | [] => some []
  | x :: l => match f x, mapO f l with | some y, some m => some (y :: m) | _, _ => none
def ofConstS : Value → Option SV
  | .agg cs => (mapO ofCellS cs.toList).map .agg
  | .tuple vs => (mapO ofCellS vs.toList).map .tup
  | v => ofCellS v
def ofAV : AV → Option SV
  | .bool b => some (.bool b)
  | .int k n => some (.int k n)
  | .str s => some (.str s)
  | .nilp => some .nilp
  | .nils => some .nils
  | .nilm => some .nilm
  | .nilf => some .nilf
  | _ => none
def ofAVs : AV → Option (List SV)
  | .agg cs => mapO ofAV cs
  | v => (ofAV v).map fun x => [x]

def sev (ts : Fr) : Operand → Option SV
  | .tmp t => look ts t
  | .const v => ofConstS v
  | .func f => some (.fn f [] [])
  | .global _ => none
def sevs (ts : Fr) (l : List Operand) : Option (List SV) := mapO (sev ts) l

def SV.cells : SV → List SV
  | .agg cs => cs
  | v => [v]
def isPure : SV → Bool
  | .bool _ | .int _ _ | .str _ | .nilp | .nils | .nilm | .nilf | .lst _ _ _ => true
  | _ => false

def SV.known : SV → Bool
  | .any => false
  | _ => true
def isScalar : SV → Bool
  | .agg _ | .tup _ | .any => false
  | _ => true

section
variable (tab : Tab)

def partS (t : TypeId) (cs : List SV) (off : Nat) : Option SV :=
  match tab.agg.get t with
  | some true => match tab.siz.get t with
    | some n => bif Nat.ble (off + n) cs.length then some (.agg ((cs.drop off).take n)) else none
    | none => none
  | some false => cs[off]?
  | none => none
def overlayS (cs : List SV) (off : Nat) (vs : List SV) : List SV := cs.take off ++ (vs ++ cs.drop (off + vs.length))

def loadS (h : SH) (t : TypeId) (p : SV) (k : SV → Prop) : Prop :=
  match p with
  | .ptr b off => match h.get b with
    | some (.cells cs _) => so (partS tab t cs off) k
    | _ => False
  | .eptr b i off => match h.get b with
    | some (.arr _ L enc _) => so (L[i]?) fun x => so (partS tab t (enc x) off) k
    | _ => False
  | .rptr cs off => so (partS tab t cs off) k
  | _ => False
def storeS (h : SH) (t : TypeId) (p v : SV) (k : SH → Prop) : Prop :=
  match tab.siz.get t with
  | some n => ck (!(Nat.beq n 0) && v.known && Nat.beq v.cells.length n && v.cells.all isScalar) (match p with
    | .ptr b off => match h.get b with
      | some (.cells cs e) => ck (Nat.ble (off + n) cs.length) (k (h.set b (some (.cells (overlayS cs off v.cells) e))))
      | _ => False
    | _ => False)
  | none => False
end
end Go.Sy

namespace Go.Sy
open Go.Am
universe u v

inductive Ev : Type 1 where
  | kill (b : Nat)
  | mod (b : Nat)
  | frz (b : Nat) (X : Type) (L : List X) (enc : X → List SV)

def modded : List Ev → List Nat
  | [] => []
  | .mod b :: l => b :: modded l
  | .kill b :: l => b :: modded l
  | _ :: l => modded l
mutual
def SV.on (e : Ev) : SV → SV
  | .eptr b i off => match e with
    | .kill c => bif Nat.beq b c then .any else .eptr b i off
    | .frz c _ L enc => bif Nat.beq b c then (match L[i]? with | some x => .rptr (enc x) off | none => .any) else .eptr b i off
    | .mod _ => .eptr b i off
  | .own b => match e with
    | .kill c => bif Nat.beq b c then .any else .own b
    | .frz c X L enc => bif Nat.beq b c then .lst X L enc else .own b
    | .mod _ => .own b
  | .sl b off len cap => match e with
    | .kill c => bif Nat.beq b c then .any else .sl b off len cap
    | .frz c _ _ _ => bif Nat.beq b c then .any else .sl b off len cap
    | .mod _ => .sl b off len cap
  | .ptr b off => match e with
    | .kill c => bif Nat.beq b c then .any else .ptr b off
    | .frz c _ _ _ => bif Nat.beq b c then .any else .ptr b off
    | .mod _ => .ptr b off
  | .fn f xs ys => .fn f (SV.onL e xs) (SV.onL e ys)
  | .agg cs => .agg (SV.onL e cs)
  | .tup cs => .tup (SV.onL e cs)
  | v => v
def SV.onL (e : Ev) : List SV → List SV
  | [] => []
  | v :: l => SV.on e v :: SV.onL e l
end
def SO.on (e : Ev) : SO → SO
  | .cells cs t => .cells (SV.onL e cs) t
  | o => o
def onH (e : Ev) : List (Nat × Option SO) → List (Nat × Option SO)
  | [] => []
  | (b, none) :: l => (b, none) :: onH e l
  | (b, some o) :: l => (b, some (o.on e)) :: onH e l
def onF (e : Ev) : Fr → Fr
  | [] => []
  | (t, v) :: l => (t, v.on e) :: onF e l

structure St : Type 1 where
  ts : Fr
  h : SH
  log : List Ev
def St.note : St → Ev → St
  | ⟨ts, h, log⟩, e => ⟨ts, h, log ++ [e]⟩
def St.ev : St → Ev → St
  | ⟨ts, ⟨n, os⟩, log⟩, e => ⟨onF e ts, ⟨n, onH e os⟩, log ++ [e]⟩
def St.new : St → SO → St
  | ⟨ts, h, log⟩, o => ⟨ts, h.new o, log⟩
def St.setO : St → Nat → SO → St
  | ⟨ts, h, log⟩, b, o => ⟨ts, h.set b (some o), log⟩
def St.del : St → Nat → St
  | ⟨ts, h, log⟩, b => ⟨ts, h.set b none, log⟩
def St.ofH : St → SH → List Ev → St
  | ⟨ts, _, log⟩, h, l => ⟨ts, h, log ++ l⟩
def forceL {α : Type u} : List α → (List α → Prop) → Prop
  | [], K => K []
  | x :: l, K => forceL l fun l' => K (x :: l')
def forceV (v : SV) (K : SV → Prop) : Prop :=
  match v with
  | .bool b => K (.bool b)
  | .int k n => K (.int k n)
  | .str s => K (.str s)
  | .nilp => K .nilp
  | .ptr b off => K (.ptr b off)
  | .eptr b i off => K (.eptr b i off)
  | .rptr cs off => forceL cs fun cs => K (.rptr cs off)
  | .nils => K .nils
  | .sl b off n c => K (.sl b off n c)
  | .own b => K (.own b)
  | .lst X L enc => K (.lst X L enc)
  | .nilm => K .nilm
  | .map b => K (.map b)
  | .nilf => K .nilf
  | .fn f xs ys => forceL xs fun xs => forceL ys fun ys => K (.fn f xs ys)
  | .agg cs => forceL cs fun cs => K (.agg cs)
  | .tup cs => forceL cs fun cs => K (.tup cs)
  | .any => K .any
def forceO (o : SO) (K : SO → Prop) : Prop :=
  match o with
  | .cells cs t => forceL cs fun cs => K (.cells cs t)
  | .arr X L enc t => K (.arr X L enc t)
def forceH (h : SH) (K : SH → Prop) : Prop :=
  match h with
  | ⟨n, os⟩ => match os with
    | (b, some o) :: l => forceO o fun o => K ⟨n, (b, some o) :: l⟩
    | l => K ⟨n, l⟩
def forceS (s : St) (K : St → Prop) : Prop :=
  match s with
  | ⟨ts, h, log⟩ => forceH h fun h => K ⟨ts, h, log⟩
def forceT {α : Type} : T α → (T α → Prop) → Prop
  | .e, K => K .e
  | .n v l r, K => forceT l fun l => forceT r fun r => match v with
    | some a => K (.n (some a) l r)
    | none => K (.n none l r)

structure View : Type 1 where
  X : Type
  enc : X → List SV

def zeroS (tab : Tab) (t : TypeId) : Option (List SV) := (tab.zer.get t).bind ofAVs
def isOk {α : Type} : R α → Bool | .ok _ => true | .no _ => false
def sOf : R AV → Option SV
  | .ok v => ofAV v
  | .no _ => none
def ltI (x y : Int) : Bool :=
  match x with
  | .ofNat a => match y with
    | .ofNat b => Nat.blt a b
    | .negSucc _ => false
  | .negSucc a => match y with
    | .ofNat _ => true
    | .negSucc b => Nat.blt b a
def leI (x y : Int) : Bool :=
  match x with
  | .ofNat a => match y with
    | .ofNat b => Nat.ble a b
    | .negSucc _ => false
  | .negSucc a => match y with
    | .ofNat _ => true
    | .negSucc b => Nat.ble b a
def loI : IntKind → Int
  | .i8 => .negSucc 127 | .i16 => .negSucc 32767 | .i32 => .negSucc 2147483647 | .i64 => .negSucc 9223372036854775807
  | _ => .ofNat 0
def hiI : IntKind → Int
  | .i8 => .ofNat 127 | .i16 => .ofNat 32767 | .i32 => .ofNat 2147483647 | .i64 => .ofNat 9223372036854775807
  | .u8 => .ofNat 255 | .u16 => .ofNat 65535 | .u32 => .ofNat 4294967295 | .u64 => .ofNat 18446744073709551615
def inR (k : IntKind) (n : Int) : Bool := leI (loI k) n && leI n (hiI k)
def nn (n : Int) : Bool := match n with | .ofNat _ => true | .negSucc _ => false
def natS (v : SV) (k : Nat → Prop) : Prop :=
  match v with
  | .int _ n => ck (nn n) (k n.toNat)
  | _ => False

section
variable (tab : Tab) (view : TypeId → Option View)

def eqFS (eq : TypeId → SV → SV → Option Bool) : List Field → List SV → List SV → Option Bool
  | [], _, _ => some true
  | f :: fs, xs, ys =>
    bif decide (f.name = "_") then eqFS eq fs xs ys else
      match partS tab f.type xs f.offset, partS tab f.type ys f.offset with
      | some a, some b => match eq f.type a b, eqFS eq fs xs ys with
        | some p, some q => some (p && q)
        | _, _ => none
      | _, _ => none
def eqTS : Nat → TypeId → SV → SV → Option Bool
  | 0, _, _, _ => none
  | d + 1, t, x, y =>
    match tab.und.get t, x, y with
    | some .bool, .bool a, .bool b => some (a == b)
    | some (.int _), .int k a, .int j b => bif decide (k = j) then some (a == b) else none
    | some .string, .str a, .str b => some (a == b)
    | some (.pointer _), .nilp, .nilp => some true
    | some (.pointer _), .nilp, .ptr _ _ => some false
    | some (.pointer _), .ptr _ _, .nilp => some false
    | some (.slice _), .nils, .nils => some true
    | some (.map _ _), .nilm, .nilm => some true
    | some (.map _ _), .nilm, .map _ => some false
    | some (.map _ _), .map _, .nilm => some false
    | some (.func _ _ _), .nilf, .nilf => some true
    | some (.func _ _ _), .nilf, .fn .. => some false
    | some (.func _ _ _), .fn .., .nilf => some false
    | some (.struct fs), .agg xs, .agg ys =>
      match tab.held.get t with
      | some false => eqFS tab (eqTS d) fs.toList xs ys
      | _ => none
    | _, _, _ => none

def encB (b : UInt8) : List SV := [.int .u8 (.ofNat b.toNat)]
def encBs (c : List UInt8) : List SV := c.map fun b => .int .u8 (.ofNat b.toNat)
def sarith (op : BinOp) (k : IntKind) (x y : Int) (K : SV → Prop) : Prop :=
  let fit (n : Int) : Prop := bif k.signed then ck (inR k n) (K (.int k n)) else K (.int k (k.wrap n))
  match op with
  | .add => fit (x + y)
  | .sub => fit (x - y)
  | .mul => fit (x * y)
  | .quo => ck (!(y == 0)) (fit (x.tdiv y))
  | .rem => ck (!(y == 0)) (K (.int k (x.tmod y)))
  | .eql => K (.bool (x == y))
  | .neq => K (.bool (!(x == y)))
  | .lss => K (.bool (ltI x y))
  | .leq => K (.bool (leI x y))
  | .gtr => K (.bool (ltI y x))
  | .geq => K (.bool (leI y x))
  | op => so (sOf (intOp op k x y)) K
def sbin (op : BinOp) (t : TypeId) (x y : SV) (K : SV → Prop) : Prop :=
  match op, x, y with
  | .shl, .int k a, .int _ b => ck (nn b) (so (sOf (.ok (.int k (k.wrap (a * 2 ^ (min b.toNat k.bits)))))) K)
  | .shr, .int k a, .int _ b => ck (nn b) (so (sOf (.ok (.int k (a.fdiv (2 ^ (min b.toNat k.bits)))))) K)
  | op, .int k a, .int j b => ck (decide (k = j)) (sarith op k a b K)
  | .add, .str a, .str b => ck (Nat.ble (a.length + b.length) 1048576) (K (.str (a ++ b)))
  | .eql, .str a, .str b => K (.bool (a == b))
  | .neq, .str a, .str b => K (.bool (!(a == b)))
  | .lss, .str a, .str b => K (.bool (Op.bytesLess a b))
  | .leq, .str a, .str b => K (.bool (Op.bytesLess a b || a == b))
  | .gtr, .str a, .str b => K (.bool (!(Op.bytesLess a b || a == b)))
  | .geq, .str a, .str b => K (.bool (!Op.bytesLess a b))
  | .eql, .agg a, .agg b => match tab.grd.get t with | some false => so (eqTS tab 8 t (.agg a) (.agg b)) fun p => K (.bool p) | _ => False
  | .neq, .agg a, .agg b => match tab.grd.get t with | some false => so (eqTS tab 8 t (.agg a) (.agg b)) fun p => K (.bool (!p)) | _ => False
  | .eql, x, y => so (eqTS tab 8 t x y) fun p => K (.bool p)
  | .neq, x, y => so (eqTS tab 8 t x y) fun p => K (.bool (!p))
  | _, _, _ => False
def sun (op : UnOp) (x : SV) (K : SV → Prop) : Prop :=
  match op, x with
  | .neg, .int k n => bif k.signed then ck (inR k (0 - n)) (K (.int k (0 - n))) else K (.int k (k.wrap (0 - n)))
  | .xor, .int k n => so (sOf (unOp .xor (.int k n))) K
  | .not, .bool b => K (.bool (!b))
  | _, _ => False

def fillS (cs : List SV) : List (Nat × Nat × SV) → Option (List SV)
  | [] => some cs
  | (off, n, v) :: rest => bif v.known && Nat.beq v.cells.length n && Nat.ble (off + n) cs.length then fillS (overlayS cs off v.cells) rest else none
def placesS (fs : Array Field) : List (Nat × SV) → Option (List (Nat × Nat × SV))
  | [] => some []
  | (i, v) :: rest => match fs[i]? with
    | some f => match tab.siz.get f.type, placesS fs rest with
      | some n, some r => some ((f.offset, n, v) :: r)
      | _, _ => none
    | none => none
def partsS (ts : Fr) : List (Nat × Operand) → Option (List (Nat × SV))
  | [] => some []
  | (i, x) :: l => match sev ts x, partsS ts l with
    | some v, some r => some ((i, v) :: r)
    | _, _ => none
def buildS (t : TypeId) (ps : List (Nat × SV)) : Option SV :=
  match zeroS tab t, tab.und.get t with
  | some z, some (.struct fs) => bif fs.toList.all (fun f => (tab.siz.get f.type).isSome) then
      match placesS tab fs ps with
      | some q => (fillS z q).map .agg
      | none => none
    else none
  | some z, some (.array _ e) => match tab.siz.get e with
    | some n => (fillS z (ps.map fun (i, v) => (i * n, n, v))).map .agg
    | none => none
  | _, _ => none
def repS : Nat → List SV → List SV
  | 0, _ => []
  | n + 1, l => l ++ repS n l
def buildSliceS (s : St) (t : TypeId) (len : Nat) (ps : List (Nat × SV)) (K : SV → St → Prop) : Prop :=
  match tab.und.get t with
  | some (.slice e) => match tab.siz.get e, zeroS tab e with
    | some n, some z => ck (Nat.ble (len * n) 16777216 && Nat.beq z.length n) (bif Nat.beq len 0 then
        ck (ps.isEmpty && !(Nat.beq n 0)) (match view e with
        | some V => K (.own s.h.next) (s.new (.arr V.X [] V.enc e))
        | none => False)
      else so (fillS (repS len z) (ps.map fun (i, v) => (i * n, n, v))) fun cs => K (.sl s.h.next 0 len len) (s.new (.cells cs e)))
    | _, _ => False
  | _ => False

def natO (ts : Fr) (x : Option Operand) (K : Option Nat → Prop) : Prop :=
  match x with
  | none => K none
  | some y => so (sev ts y) fun v => natS v fun n => K (some n)
def cutL {α : Type u} (l : List α) (lo hi : Option Nat) (K : List α → Prop) : Prop :=
  match lo, hi with
  | none, none => K l
  | some a, none => ck (Nat.ble a l.length) (K (l.drop a))
  | none, some b => ck (Nat.ble b l.length) (K (l.take b))
  | some a, some b => ck (Nat.ble a b && Nat.ble b l.length) (K ((l.drop a).take (b - a)))
def sliceS (s : St) (t : TypeId) (x : SV) (lo hi : Option Operand) (K : SV → St → Prop) : Prop :=
  natO s.ts lo fun l => natO s.ts hi fun u =>
  match tab.und.get t, x with
  | some .string, .str c => cutL c l u fun c' => K (.str c') s
  | some (.slice e), .lst X L enc => match tab.siz.get e with
    | some n => (∀ x : X, (enc x).length = n) ∧ cutL L l u fun L' => K (.lst X L' enc) s
    | none => False
  | some (.slice e), .own b => match s.h.get b, tab.siz.get e with
    | some (.arr X L enc _), some n => (∀ x : X, (enc x).length = n) ∧ cutL L l u fun L' => K (.lst X L' enc) ((s.ev (.frz b X L enc)).del b)
    | _, _ => False
  | some (.slice e), .sl b off len cap => match tab.siz.get e with
    | some n => let a := l.getD 0
      let c := u.getD len
      ck (Nat.ble a c && Nat.ble c cap) (K (.sl b (bif Nat.beq cap a then off else off + a * n) (c - a) (cap - a)) s)
    | none => False
  | _, _ => False

def convS (s : St) (src dst : TypeId) (x : SV) (K : SV → St → Prop) : Prop :=
  match tab.und.get src, tab.und.get dst, x with
  | some _, some (.int k), .int _ n => K (.int k (k.wrap n)) s
  | some _, some .string, .str c => K (.str c) s
  | some _, some (.slice e), .str c => match tab.und.get e, tab.siz.get e with
    | some (.int .u8), some 1 => K (.lst UInt8 c encB) s
    | _, _ => False
  | some (.slice e), some .string, .nils => match tab.und.get e with
    | some (.int .u8) => K (.str []) s
    | _ => False
  | some (.slice e), some .string, .lst X L enc => match tab.und.get e with
    | some (.int .u8) => ∃ c : List UInt8, SV.lst X L enc = SV.lst UInt8 c encB ∧ K (.str c) s
    | _ => False
  | some (.slice e), some .string, .own b => match tab.und.get e, s.h.get b with
    | some (.int .u8), some (.arr X L enc _) => ∃ c : List UInt8, SV.lst X L enc = SV.lst UInt8 c encB ∧ K (.str c) s
    | _, _ => False
  | some (.slice e), some .string, .sl b off len _ => match tab.und.get e, s.h.get b with
    | some (.int .u8), some (.cells cs _) => ck (Nat.ble (off + len) cs.length) (∃ c : List UInt8, (cs.drop off).take len = encBs c ∧ K (.str c) s)
    | _, _ => False
  | _, _, _ => False

def fieldS (t : TypeId) (f : Nat) : Option Field :=
  match tab.und.get t with
  | some (.struct fs) => fs[f]?
  | _ => none
def chunk (n : Nat) : Nat → List SV → List (List SV)
  | 0, _ => []
  | m + 1, l => l.take n :: chunk n m (l.drop n)
def exL {X : Type} (enc : X → List SV) : List (List SV) → (List X → Prop) → Prop
  | [], K => K []
  | c :: cs, K => ∃ x : X, enc x = c ∧ exL enc cs fun l => K (x :: l)
def frzOwn : List SV → St → St
  | [], s => s
  | .own b :: l, s => match s.h.get b with
    | some (.arr X L enc _) => frzOwn l ((s.ev (.frz b X L enc)).del b)
    | _ => frzOwn l s
  | _ :: l, s => frzOwn l s
def appL (s : St) (e n by_ : Nat) (x : SV) (Y : Type) (M : List Y) (enc' : Y → List SV) (K : SV → St → Prop) : Prop :=
  match x with
  | .nils => (∀ x : Y, (enc' x).length = n ∧ (enc' x).all isPure = true) ∧ ck (Nat.ble (M.length * by_) 16777216 && Nat.ble M.length 16777216) (K (.own s.h.next) (s.new (.arr Y M enc' e)))
  | .own d => match s.h.get d with
    | some (.arr X L enc e') => ck (Nat.beq e e') ((∀ x : Y, (enc' x).length = n ∧ (enc' x).all isPure = true) ∧ ∃ M' : List X, SV.lst Y M enc' = SV.lst X M' enc ∧ ck (Nat.ble ((L.length + M'.length) * by_) 16777216 && Nat.ble (L.length + M'.length) 16777216) (K (.own d) (((s.ev (.kill d)).setO d (.arr X (L ++ M') enc e)).note (.mod d))))
    | _ => False
  | _ => False
def appC (s : St) (e n by_ m : Nat) (x : SV) (cs : List SV) (K : SV → St → Prop) : Prop :=
  match x with
  | .nils => match view e with
    | some V => exL V.enc (chunk n m cs) fun l => ck (Nat.ble (l.length * by_) 16777216 && Nat.ble l.length 16777216) (K (.own s.h.next) (s.new (.arr V.X l V.enc e)))
    | none => False
  | .own d => match s.h.get d with
    | some (.arr X L enc e') => ck (Nat.beq e e') (exL enc (chunk n m cs) fun l => ck (Nat.ble ((L.length + l.length) * by_) 16777216 && Nat.ble (L.length + l.length) 16777216) (K (.own d) (((s.ev (.kill d)).setO d (.arr X (L ++ l) enc e)).note (.mod d))))
    | _ => False
  | _ => False
def appendS (s : St) (e : TypeId) (x y : SV) (K : SV → St → Prop) : Prop :=
  match tab.siz.get e, tab.byt.get e with
  | some n, some by_ =>
    ck (!(Nat.beq n 0) && (match zeroS tab e with | some z => Nat.beq z.length n | none => false))
    (match y with
    | .sl b off m _ => match s.h.get b with
      | some (.cells cs0 _) =>
        match (frzOwn ((cs0.drop off).take (m * n)) s).h.get b with
        | some (.cells cs _) => ck (Nat.ble (off + m * n) cs.length && ((cs.drop off).take (m * n)).all isPure) (appC view (frzOwn ((cs0.drop off).take (m * n)) s) e n by_ m x ((cs.drop off).take (m * n)) K)
        | _ => False
      | _ => False
    | .lst Y M enc' => appL s e n by_ x Y M enc' K
    | .own b => match s.h.get b with
      | some (.arr Y M enc' _) => appL ((s.ev (.frz b Y M enc')).del b) e n by_ x Y M enc' K
      | _ => False
    | .nils => match x with
      | .nils => K .nils s
      | _ => False
    | _ => False)
  | _, _ => False

def minS (k : IntKind) : Int → List SV → Option SV
  | x, [] => some (.int k x)
  | x, .int _ y :: l => minS k (if y < x then y else x) l
  | _, _ => none
def maxS (k : IntKind) : Int → List SV → Option SV
  | x, [] => some (.int k x)
  | x, .int _ y :: l => maxS k (if y > x then y else x) l
  | _, _ => none
def lenS (s : St) (x : SV) : Option Nat :=
  match x with
  | .nils => some 0
  | .lst _ L _ => some L.length
  | .sl _ _ n _ => some n
  | .own b => match s.h.get b with
    | some (.arr _ L _ _) => some L.length
    | _ => none
  | _ => none
def builtinS (s : St) (b : Builtin) (ats : Array TypeId) (args : List SV) (K : SV → St → Prop) : Prop :=
  match b, args with
  | .len, [x] => match (ats[0]?).bind tab.und.get with
    | some .string => match x with | .str c => K (.int .i64 (.ofNat c.length)) s | _ => False
    | some (.slice _) => so (lenS s x) fun n => K (.int .i64 (.ofNat n)) s
    | _ => False
  | .append, [x, y] => match (ats[0]?).bind tab.und.get, (ats[1]?).bind tab.und.get with
    | some (.slice e), some (.slice _) => appendS tab view s e x y K
    | _, _ => False
  | .min, .int k x :: l => so (minS k x l) fun v => K v s
  | .max, .int k x :: l => so (maxS k x l) fun v => K v s
  | _, _ => False

def modOf : SV → List Ev
  | .ptr b _ => [.mod b]
  | _ => []
def sop (s : St) (o : Oper) (K : SV → St → Prop) : Prop :=
  match o.op with
  | .move x => so (sev s.ts x) fun v => K v s
  | .assign x => so (sev s.ts x) fun v => K v s
  | .pick c a b => match sev s.ts c with
    | some (.bool p) => match sev s.ts a, sev s.ts b with
      | some (.bool x), some (.bool y) => K (.bool (bif p then x else y)) s
      | u, v => br p (so u fun v => K v s) (so v fun v => K v s)
    | _ => False
  | .alloc e => so (tab.siz.get e) fun _ => so (zeroS tab e) fun cs => K (.ptr s.h.next 0) (s.new (.cells cs e))
  | .box e x => so (tab.siz.get e) fun _ => so (sev s.ts x) fun v => ck v.known (K (.ptr s.h.next 0) (s.new (.cells v.cells e)))
  | .build t ps => so (partsS s.ts ps.toList) fun l => so (buildS tab t l) fun v => K v s
  | .buildSlice t n ps => so (partsS s.ts ps.toList) fun l => buildSliceS tab view s t n l K
  | .load t a => so (sev s.ts a) fun p => loadS tab s.h t p fun v => K v s
  | .store t a x => so (sev s.ts a) fun p => so (sev s.ts x) fun v => storeS tab s.h t p v fun h' => K (.tup []) (s.ofH h' (modOf p))
  | .nilCheck x => so (sev s.ts x) fun v => match v with
    | .ptr .. | .eptr .. | .rptr .. | .fn .. => K v s
    | _ => False
  | .binOp op t x y _ => so (sev s.ts x) fun a => so (sev s.ts y) fun b => sbin tab op t a b fun v => K v s
  | .unOp op _ x => so (sev s.ts x) fun a => sun op a fun v => K v s
  | .convert a b x => so (sev s.ts x) fun v => convS tab s a b v K
  | .makeFunc fn first captured => match fn with
    | .func f => so (sevs s.ts first.toList) fun xs => so (sevs s.ts captured.toList) fun ys => K (.fn f xs ys) s
    | _ => False
  | .slice t x lo hi none => so (sev s.ts x) fun v => sliceS tab s t v lo hi K
  | .fieldAddr st x f => so (fieldS tab st f) fun fd => ck (match tab.siz.get fd.type with | some n => !(Nat.beq n 0) | none => false) (so (sev s.ts x) fun v => match v with
    | .ptr b off => K (.ptr b (off + fd.offset)) s
    | .eptr b i off => K (.eptr b i (off + fd.offset)) s
    | .rptr cs off => K (.rptr cs (off + fd.offset)) s
    | _ => False)
  | .field t x f => so (fieldS tab t f) fun fd => so (sev s.ts x) fun v => match v with
    | .agg cs => so (partS tab fd.type cs fd.offset) fun u => K u s
    | _ => False
  | .indexAddr t x ix => so (sev s.ts ix) fun j => natS j fun i => so (sev s.ts x) fun v => match tab.und.get t, v with
    | some (.array len e), .ptr b off => match tab.siz.get e with
      | some n => ck (Nat.blt i len) (K (.ptr b (off + i * n)) s)
      | none => False
    | some (.slice e), .sl b off len _ => match tab.siz.get e with
      | some n => ck (Nat.blt i len) (K (.ptr b (off + i * n)) s)
      | none => False
    | some (.slice e), .lst _ L enc => match tab.siz.get e with
      | some n => so (L[i]?) fun x => ck (Nat.beq (enc x).length n) (K (.rptr (enc x) 0) s)
      | none => False
    | some (.slice e), .own b => match tab.siz.get e, s.h.get b with
      | some _, some (.arr _ L _ e') => ck (Nat.beq e e' && Nat.blt i L.length) (K (.eptr b i 0) s)
      | _, _ => False
    | _, _ => False
  | .index t x ix => so (sev s.ts ix) fun j => natS j fun i => so (sev s.ts x) fun v => match tab.und.get t, v with
    | some (.array len e), .agg cs => match tab.siz.get e with
      | some n => ck (Nat.blt i len) (so (partS tab e cs (i * n)) fun u => K u s)
      | none => False
    | some .string, .str c => so (c[i]?) fun b => K (.int .u8 (.ofNat b.toNat)) s
    | _, _ => False
  | .extract t i => so (sev s.ts t) fun v => match v with
    | .tup vs => so (vs[i]?) fun u => K u s
    | _ => False
  | .call c => match c.callee with
    | .builtin b => so (sevs s.ts c.args.toList) fun l => builtinS tab view s b c.argTypes l K
    | _ => False
  | _ => False
end
end Go.Sy

namespace Go.Sy
open Go.Am
universe u v

structure Con : Type 1 where
  Y : Type
  pre : Y → Prop
  args : Y → List SV
  res : Y → SV
structure Ann : Type 1 where
  α : Type
  ok : α → Prop
  μ : α → Nat
  keep : List Nat
  slots : α → List (Nat × SV)
  objs : α → List (Nat × SO)
  frz : List Nat := []
  link : Option (α → α → Prop) := none
structure Cfg : Type 1 where
  tab : Tab
  view : TypeId → Option View
  con : FuncId → Option Con
  ann : FuncId → Nat → Option Ann

inductive SItem : Type 1 where
  | code (c : Code)
  | inBlock (id : Nat)
  | inLoop (body : Code)
  | head (chk : Fr → SH → List Ev → Prop)
  | inScope (body : Code)
  | inRegion (ops : Array Oper) (l : List Nat)
structure SM : Type 1 where
  fn : FuncId
  nt : Nat
  base : Nat
  todo : List SItem
  s : St

mutual
def SV.lt (n : Nat) : SV → Bool
  | .ptr b _ => Nat.blt b n
  | .eptr b _ _ => Nat.blt b n
  | .own b => Nat.blt b n
  | .sl b _ _ _ => Nat.blt b n
  | .map b => Nat.blt b n
  | .fn _ xs ys => SV.ltL n xs && SV.ltL n ys
  | .agg cs => SV.ltL n cs
  | .tup cs => SV.ltL n cs
  | _ => true
def SV.ltL (n : Nat) : List SV → Bool
  | [] => true
  | v :: l => SV.lt n v && SV.ltL n l
end
mutual
def SV.full : SV → Bool
  | .any => false
  | .fn _ xs ys => SV.fullL xs && SV.fullL ys
  | .agg cs => SV.fullL cs
  | .tup cs => SV.fullL cs
  | _ => true
def SV.fullL : List SV → Bool
  | [] => true
  | v :: l => SV.full v && SV.fullL l
end
def SO.lt (n : Nat) : SO → Bool
  | .cells cs _ => SV.ltL n cs
  | .arr .. => true
def Ev.id : Ev → Nat
  | .kill b => b
  | .mod b => b
  | .frz b _ _ _ => b

def eqS (v e : SV) : Prop :=
  match v, e with
  | .bool a, .bool b => a = b
  | .int k a, .int j b => ck (decide (k = j)) (a = b)
  | .str a, .str b => a = b
  | .ptr a i, .ptr b j => ck (Nat.beq a b && Nat.beq i j) True
  | .own a, .own b => ck (Nat.beq a b) True
  | .nilp, .nilp => True
  | .nils, .nils => True
  | .nilm, .nilm => True
  | .nilf, .nilf => True
  | _, .any => True
  | v, e => v = e
def eqSL : List SV → List SV → Prop
  | [], [] => True
  | a :: l, b :: m => eqS a b ∧ eqSL l m
  | _, _ => False
def eqSO (o e : SO) : Prop :=
  match o, e with
  | .cells a t, .cells b u => ck (Nat.beq t u) (eqSL a b)
  | .arr X L enc t, .arr X' L' enc' u => ck (Nat.beq t u) (SV.lst X L enc = SV.lst X' L' enc')
  | _, _ => False
def fitO (tab : Tab) (next p : Nat) (o e : Option SO) : Prop :=
  match e, o with
  | none, _ => True
  | some (.arr X L enc t), some o => eqSO o (.arr X L enc t)
  | some (.arr X L enc t), none => ck (Nat.ble next p) (L = [] ∧ so (tab.siz.get t) fun n => ck (!(Nat.beq n 0)) (∀ x : X, (enc x).length = n))
  | some e, some o => eqSO o e
  | some _, none => False
def fitHs (tab : Tab) (h e : SH) : Nat → Prop
  | 0 => True
  | n + 1 => fitO tab h.next n (h.get n) (e.get n) ∧ fitHs tab h e n
def fitH (tab : Tab) (h e : SH) : Prop := fitHs tab h e e.next
def fitV (h eh : SH) (v e : SV) : Prop :=
  match e, v with
  | .own b, .nils => match h.get b, eh.get b with | none, some (.arr ..) => True | _, _ => False
  | e, v => eqS v e
def fitT (ts : Fr) (h eh : SH) : Fr → Prop
  | [] => True
  | (t, e) :: l => so (look ts t) (fun v => fitV h eh v e) ∧ fitT ts h eh l
def stay (n : Nat) (h eh : SH) : Bool := (List.range n).all fun p => match h.get p, eh.get p with | some _, none => false | _, _ => true
def atSlots (ts : Fr) (e : Fr) : List Nat → Fr
  | [] => e
  | t :: l => match look ts t with | some v => (t, v) :: atSlots ts e l | none => atSlots ts e l
def putO : SH → List (Nat × SO) → SH
  | h, [] => h
  | ⟨n, os⟩, (b, o) :: l => putO ⟨Nat.max n (b + 1), (b, some o) :: os⟩ l
def Ann.at (A : Ann) (s : St) (x : A.α) : Fr × SH := (atSlots s.ts (A.slots x) A.keep, putO s.h (A.objs x))
def low (ts : Fr) (h : SH) : Bool := ts.all (fun x => x.2.lt h.next) && h.os.all (fun x => Nat.blt x.1 h.next && (match x.2 with | some o => o.lt h.next | none => true))

def firstReg : Code → Option Nat
  | .region id _ _ => some id
  | .seq a b => match firstReg a with | some r => some r | none => firstReg b
  | .cond _ a b => match firstReg a with | some r => some r | none => firstReg b
  | .block _ b => firstReg b
  | .loop b => firstReg b
  | .scope b => firstReg b
  | .rangeFunc _ _ a b => match firstReg a with | some r => some r | none => firstReg b
  | _ => none
def exitS (id : Nat) : List SItem → Option (List SItem)
  | .inBlock j :: k => bif Nat.beq j id then some k else exitS id k
  | _ :: k => exitS id k
  | [] => none

section
variable (cfg : Cfg)

def argM : Nat → List SV → List SV → St → (St → Prop) → Prop
  | 0, _, _, _, _ => False
  | _ + 1, [], [], s, K => K s
  | n + 1, f :: fs, a :: as, s, K =>
    match f, a with
    | .any, _ => argM n fs as s K
    | .bool x, .bool y => y = x ∧ argM n fs as s K
    | .int k x, .int j y => ck (decide (k = j)) (y = x ∧ argM n fs as s K)
    | .str x, .str y => y = x ∧ argM n fs as s K
    | .nilp, .nilp => argM n fs as s K
    | .nils, .nils => argM n fs as s K
    | .nilm, .nilm => argM n fs as s K
    | .nilf, .nilf => argM n fs as s K
    | .lst X L enc, .lst X' L' enc' => SV.lst X' L' enc' = SV.lst X L enc ∧ argM n fs as s K
    | .lst _ L _, .nils => L = [] ∧ argM n fs as s K
    | .lst X L enc, .own b => match s.h.get b with
      | some (.arr X' L' enc' _) => SV.lst X' L' enc' = SV.lst X L enc ∧ argM n fs (SV.onL (.frz b X' L' enc') as) ((s.ev (.frz b X' L' enc')).del b) K
      | _ => False
    | .lst X L enc, .sl b off m c => match s.h.get b with
      | some (.cells cs e) => match cfg.tab.siz.get e with
        | some r => ck (!(Nat.beq r 0) && Nat.ble m c && Nat.ble (off + m * r) cs.length && ((cs.drop off).take (m * r)).all isPure) (chunk r m ((cs.drop off).take (m * r)) = L.map enc ∧ argM n fs (SV.onL (.kill b) as) ((s.ev (.kill b)).del b) K)
        | none => False
      | _ => False
    | .agg xs, .agg ys => ck (Nat.beq xs.length ys.length) (argM n (xs ++ fs) (ys ++ as) s K)
    | .fn f xs us, .fn g ys vs => ck (Nat.beq f g && Nat.beq xs.length ys.length && Nat.beq us.length vs.length) (argM n (xs ++ (us ++ fs)) (ys ++ (vs ++ as)) s K)
    | _, _ => False
  | _, _, _, _, _ => False

def logOn : List Ev → Fr → Fr
  | [], ts => ts
  | e :: l, ts => logOn l (onF e ts)
def callS (rec : SM → (SV → St → Prop) → Prop) (f : FuncId) (args : List SV) (s : St) (K : SV → St → Prop) : Prop :=
  match cfg.tab.fns.get f with
  | some fn => match fn.body with
    | some body => match cfg.con f with
      | some C => ∃ y : C.Y, argM cfg 1000 (C.args y) args s fun s => C.pre y ∧ K (C.res y) s
      | none => match s with
        | ⟨ts, h, log⟩ => rec ⟨f, Nat.max fn.ntmps args.length, h.next, [.code body], ⟨Fr.of args 0, h, []⟩⟩ fun v s' =>
          match s' with
          | ⟨_, h', log'⟩ => K v ⟨logOn log' ts, h', log ++ log'⟩
    | none => False
  | none => False

def putS (nt : Nat) (s : St) (d : Option Tmp) (v : SV) (K : St → Prop) : Prop :=
  match s, d with
  | ⟨ts, h, log⟩, some d => bif Nat.blt d nt then forceV v fun v => forceH h fun h => K ⟨(d, v) :: ts, h, log⟩ else K ⟨ts, h, log⟩
  | ⟨ts, h, log⟩, none => forceH h fun h => K ⟨ts, h, log⟩

def guardS (ops : Array Oper) (o : Oper) (s : St) (K : Bool → St → Prop) : Prop :=
  match o.guard with
  | none => K true s
  | some (j, w) =>
    match (ops[j]?).bind (·.dst) with
    | some d => match s with
      | ⟨ts, h, log⟩ => match look ts d with
        | some (.bool p) => br p (K w ⟨(d, .bool true) :: ts, h, log⟩) (K (!w) ⟨(d, .bool false) :: ts, h, log⟩)
        | some (.tup _) => K false ⟨ts, h, log⟩
        | _ => False
    | none => K false s
def execS (rec : SM → (SV → St → Prop) → Prop) (s : St) (o : Oper) (K : SV → St → Prop) : Prop :=
  match o.op with
  | .call c => match c.callee with
    | .value f => so (sevs s.ts c.args.toList) fun args => so (sev s.ts f) fun v => match v with
      | .fn g first captured => callS cfg rec g (first ++ args ++ captured) s K
      | _ => False
    | _ => sop cfg.tab cfg.view s o K
  | _ => sop cfg.tab cfg.view s o K

structure SD : Type 1 where
  s : St
  anc : T (List Nat)
  reads : List (Nat × List Nat)
  allocs : List (Nat × Nat)
def hideS : SH → List (Nat × Nat) → SH
  | h, [] => h
  | h, (_, b) :: l => hideS (h.set b none) l
def logO (o : Option SO) : List Ev → Option SO
  | [] => o
  | e :: l => logO (o.map (SO.on e)) l
def bareS (h h0 : SH) (log : List Ev) : List (Nat × Nat) → SH
  | [] => h
  | (_, b) :: l => bareS (h.set b (logO (h0.get b) log)) h0 log l
def readsOf (ts : Fr) (o : Oper) : List Nat :=
  match o.op with
  | .load _ a => match sev ts a with
    | some (.ptr b _) => [b]
    | some (.eptr b _ _) => [b]
    | _ => []
  | .indexAddr _ x _ => match sev ts x with
    | some (.own b) => [b]
    | _ => []
  | .call c => match c.args.toList with
    | [x] => match sev ts x with
      | some (.own b) => [b]
      | _ => []
    | _ => []
  | _ => []
def onlyS (h : SH) : List Nat → List (Nat × Option SO)
  | [] => []
  | b :: l => (b, h.get b) :: onlyS h l
def floatS (ops : Array Oper) (nt i : Nat) (o : Oper) (d : SD) (K : SD → Prop) : Prop :=
  match d with
  | ⟨s, anc, reads, allocs⟩ =>
  ck (opOk anc ops i o) (guardS ops o s fun w s =>
    bif !w then forceL (ancOf anc o) fun an => forceT (anc.set i (some an)) fun anc => putS nt s o.dst (.tup []) fun s => K ⟨s, anc, reads, allocs⟩
    else match cls cfg.tab o with
    | .eff => K ⟨s, anc, reads, allocs⟩
    | .alloc => forceL (ancOf anc o) fun an => forceT (anc.set i (some an)) fun anc' => match s with
      | ⟨ts, h, log⟩ => sop cfg.tab cfg.view ⟨ts, h, []⟩ o fun v s' => match s' with
        | ⟨ts', h', log'⟩ => ck log'.isEmpty (putS nt ⟨ts', h', log⟩ o.dst v fun s' => K ⟨s', anc', reads, (i, h.next) :: allocs⟩)
    | _ => forceL (ancOf anc o) fun an => forceT (anc.set i (some an)) fun anc => match s with
      | ⟨ts, h, log⟩ => forceL (readsOf ts o) fun rs => ck (rs.all fun b => allocs.all fun x => !(Nat.beq x.2 b)) (sop cfg.tab cfg.view ⟨ts, ⟨h.next, onlyS h rs⟩, []⟩ o fun v s' => ck (s'.log.isEmpty && v.full) (putS nt ⟨ts, h, log⟩ o.dst v fun s' => K ⟨s', anc, (i, rs) :: reads, allocs⟩)))
def passS (ops : Array Oper) (nt : Nat) : Nat → List Oper → SD → (SD → Prop) → Prop
  | _, [], d, K => K d
  | i, o :: l, d, K =>
    bif isReady d.anc i o then floatS cfg ops nt i o d fun d' => passS ops nt (i + 1) l d' K
    else passS ops nt (i + 1) l d K
def effS (rec : SM → (SV → St → Prop) → Prop) (ops : Array Oper) (nt i : Nat) (o : Oper) (d : SD) (K : SD → Prop) : Prop :=
  match d with
  | ⟨s, anc, reads, allocs⟩ =>
  ck (opOk anc ops i o) (guardS ops o s fun w s =>
    ck w (forceL (ancOf anc o) fun an => forceT (anc.set i (some an)) fun anc =>
      forceL (allocs.filter fun x => !(memN x.1 an)) fun hid => forceL (reads.filter fun x => !(memN x.1 an)) fun reads => match s with
      | ⟨ts, h, log⟩ => execS cfg rec ⟨ts, hideS h hid, []⟩ o fun v s' => match s' with
        | ⟨ts', h', log'⟩ => ck ((reads.all fun x => x.2.all fun b => !(memN b (log'.map Ev.id)) && (h'.get b).isSome && hid.all fun y => !(Nat.beq y.2 b)) && hid.all fun x => !(memN x.2 (log'.map Ev.id)))
          (putS nt ⟨ts', bareS h' h log' hid, log ++ log'⟩ o.dst v fun s' => K ⟨s', anc, reads, hid⟩)))
def drawS (rec : SM → (SV → St → Prop) → Prop) (ops : Array Oper) (nt : Nat) : Nat → SD → (St → Prop) → Prop
  | 0, _, _ => False
  | n + 1, d, K => passS cfg ops nt 0 ops.toList d fun d1 =>
    match cands d1.anc 0 ops.toList with
    | [] => ck ((List.range ops.size).all fun i => (d1.anc.get i).isSome) (K d1.s)
    | [(i, o)] => effS cfg rec ops nt i o d1 fun d2 => drawS rec ops nt n d2 K
    | _ => False

def resS (s : St) : List ResultVar → (List SV → Prop) → Prop
  | [], K => K []
  | .tmp t :: l, K => so (look s.ts t) fun v => resS s l fun vs => K (v :: vs)
  | .cell a t :: l, K => so (look s.ts a) fun p => loadS cfg.tab s.h t p fun v => resS s l fun vs => K (v :: vs)
def retS (fn : FuncId) (s : St) (Q : SV → St → Prop) : Prop :=
  match cfg.tab.fns.get fn with
  | some fn => resS cfg s fn.results.toList fun vs => Q (match vs with | [v] => v | vs => .tup vs) s
  | none => False
def fixC (s : St) (c : Operand) (p : Bool) : St :=
  match s, c with
  | ⟨ts, h, log⟩, .tmp t => ⟨(t, .bool p) :: ts, h, log⟩
  | s, _ => s
def frzV (ts : Fr) : List Nat → List SV
  | [] => []
  | t :: l => match look ts t with | some v => v :: frzV ts l | none => frzV ts l
def frzS (A : Ann) (s : St) : St := frzOwn (frzV s.ts A.frz) s
def headS (A : Ann) (s : St) (base : Nat) (x : A.α) (ts : Fr) (h : SH) (log : List Ev) : Prop :=
  match frzS A ⟨ts, h, log⟩ with
  | ⟨ts, h, log⟩ => ck (log.all fun e => Nat.ble base e.id) (∃ y : A.α, A.ok y ∧ A.μ y < A.μ x ∧ fitT ts h (A.at s y).2 (A.at s y).1 ∧ fitH cfg.tab h (A.at s y).2 ∧ ck (stay base h (A.at s y).2) True)

def loopS (A : Ann) (s : St) (base : Nat) (cont : (Fr → SH → List Ev → Prop) → St → Prop) : Prop :=
  match frzS A s with
  | ⟨ts, h, log⟩ => (∃ x : A.α, A.ok x ∧ fitT ts h (A.at ⟨ts, h, log⟩ x).2 (A.at ⟨ts, h, log⟩ x).1 ∧ fitH cfg.tab h (A.at ⟨ts, h, log⟩ x).2 ∧ ck (stay base h (A.at ⟨ts, h, log⟩ x).2) True) ∧
    ∀ x : A.α, A.ok x → ck (log.all (fun e => Nat.ble base e.id) && (low (A.at ⟨ts, h, log⟩ x).1 (A.at ⟨ts, h, log⟩ x).2 && Nat.ble base (A.at ⟨ts, h, log⟩ x).2.next)) (cont (headS cfg A ⟨ts, h, log⟩ base x) ⟨(A.at ⟨ts, h, log⟩ x).1, (A.at ⟨ts, h, log⟩ x).2, log⟩)
def Ann.when (A : Ann) (R : A.α → A.α → Prop) (x0 : A.α) : Ann := { α := A.α, ok := fun x => A.ok x ∧ R x0 x, μ := A.μ, keep := A.keep, slots := A.slots, objs := A.objs, frz := A.frz }
def linkS (A : Ann) (K : Ann → Prop) : Prop :=
  match A.link with
  | none => K A
  | some R => ∃ x0 : A.α, K (A.when R x0)
theorem linkS_ok {A : Ann} {K : Ann → Prop} (h : linkS A K) : ∃ A', K A' := by
  unfold linkS at h
  split at h
  · exact ⟨_, h⟩
  · obtain ⟨x0, h⟩ := h; exact ⟨_, h⟩

def wp : Nat → SM → (SV → St → Prop) → Prop
  | 0, _, _ => False
  | n + 1, ⟨fn, nt, base, todo, s⟩, Q =>
    match todo with
    | [] => retS cfg fn s Q
    | .code .ret :: _ => retS cfg fn s Q
    | .code .skip :: k => wp n ⟨fn, nt, base, k, s⟩ Q
    | .code (.label _) :: k => wp n ⟨fn, nt, base, k, s⟩ Q
    | .inBlock _ :: k => wp n ⟨fn, nt, base, k, s⟩ Q
    | .inScope _ :: k => wp n ⟨fn, nt, base, k, s⟩ Q
    | .code (.seq a b) :: k => wp n ⟨fn, nt, base, .code a :: .code b :: k, s⟩ Q
    | .code (.cond c a b) :: k => match sev s.ts c with
      | some (.bool p) => br p (wp n ⟨fn, nt, base, .code a :: k, fixC s c true⟩ Q) (wp n ⟨fn, nt, base, .code b :: k, fixC s c false⟩ Q)
      | _ => False
    | .code (.block id b) :: k => wp n ⟨fn, nt, base, .code b :: .inBlock id :: k, s⟩ Q
    | .code (.scope b) :: k => wp n ⟨fn, nt, base, .code b :: .inScope b :: k, s⟩ Q
    | .code (.loop b) :: k => match (firstReg b).bind (cfg.ann fn) with
      | none => wp n ⟨fn, nt, base, .code b :: .inLoop b :: k, s⟩ Q
      | some A => linkS A fun A => loopS cfg A s base fun chk s' => wp n ⟨fn, nt, base, .code b :: .head chk :: k, s'⟩ Q
    | .inLoop b :: k => wp n ⟨fn, nt, base, .code b :: .inLoop b :: k, s⟩ Q
    | .head chk :: _ => chk s.ts s.h s.log
    | .code (.exit id) :: k => match exitS id k with
      | some k' => wp n ⟨fn, nt, base, k', s⟩ Q
      | none => False
    | .code (.region _ ops false) :: k => wp n ⟨fn, nt, base, .inRegion ops (List.range ops.size) :: k, s⟩ Q
    | .code (.region _ ops true) :: k => ck (preLt 0 ops.toList) (drawS cfg (wp n) ops nt (ops.size + 1) ⟨s, .e, [], []⟩ fun s => wp n ⟨fn, nt, base, k, s⟩ Q)
    | .inRegion _ [] :: k => wp n ⟨fn, nt, base, k, s⟩ Q
    | .inRegion ops (i :: rest) :: k => match ops[i]? with
      | some o => guardS ops o s fun w s =>
        bif w then execS cfg (wp n) s o fun v s' => putS nt s' o.dst v fun s' => wp n ⟨fn, nt, base, .inRegion ops rest :: k, s'⟩ Q
        else putS nt s o.dst (.tup []) fun s' => wp n ⟨fn, nt, base, .inRegion ops rest :: k, s'⟩ Q
      | none => False
    | _ => False
def ask (n : Nat) (f : FuncId) (args : List SV) (Q : SV → St → Prop) : Prop :=
  match cfg.tab.fns.get f with
  | some fn => match fn.body with
    | some body => wp cfg n ⟨f, Nat.max fn.ntmps args.length, 0, [.code body], ⟨Fr.of args 0, ⟨0, []⟩, []⟩⟩ Q
    | none => False
  | none => False
end
end Go.Sy

namespace Go.Sy
open Go.Am Go.RowKit
variable [Inhabited DrP]

def AGo (P : Program) (m : AM) (Ψ : AV → AH → Prop) : Prop :=
  ∀ (D : Nat → Prop) (E : Env) (K : KS) (base : List Frame) (frC : Frame) (csC : List Frame) (w : World), Rel D E K m base frC csC w →
    ∃ v h', Ψ v h' ∧ Am.Ends P m.h.next (lone frC csC w) D E K v h' base (bot m.fr m.cs) w
structure PrOK (P : Program) (tab : Tab) : Prop where
  ok : TabOK P tab
  ext : ExtOK P tab
  mix : P.follows .mixedOrders = true

theorem AGo.mono {P : Program} {m : AM} {Ψ Φ : AV → AH → Prop} (h : AGo P m Ψ) (hi : ∀ v h', Ψ v h' → Φ v h') : AGo P m Φ := by
  intro D E K base frC csC w hR
  obtain ⟨v, h', h1, h2⟩ := h D E K base frC csC w hR
  exact ⟨v, h', hi v h' h1, h2⟩

def sub0 : FuncId → List AV → AH → R (List (AV × AH)) := fun _ _ _ => .no "sub0"
theorem sub0_ok {P : Program} {tab : Tab} : SubOK P tab sub0 := by
  intro f fn body args h outs _ _ ho
  cases ho

section
variable {P : Program} {tab : Tab} (pr : PrOK P tab) {Ψ : AV → AH → Prop}
include pr
theorem AGo.next {m m' : AM} (hs : Am.step tab sub0 m = .ok (.next m')) (h : AGo P m' Ψ) : AGo P m Ψ := by
  intro D E K base frC csC w hR
  obtain ⟨hb, fr', cs', w', E', D', s1, s2, s3, s4, s5, s6, s7⟩ := step_sound pr.ok sub0_ok pr.ext (draw_sound pr.ok sub0_ok pr.ext pr.mix) hs hR
  obtain ⟨v, h', h1, h2⟩ := h D' E' K base fr' cs' w' s2
  rw [hb] at h2
  exact ⟨v, h', h1, Am.Ends.trans s1 s3 s4 s5 s6 s7 h2⟩
theorem AGo.alts {m : AM} {l : List AM} (hs : Am.step tab sub0 m = .ok (.alts l)) (h : ∀ m' ∈ l, AGo P m' Ψ) : AGo P m Ψ := by
  intro D E K base frC csC w hR
  obtain ⟨m', hm, hb, fr', cs', w', E', D', s1, s2, s3, s4, s5, s6, s7⟩ := step_sound pr.ok sub0_ok pr.ext (draw_sound pr.ok sub0_ok pr.ext pr.mix) hs hR
  obtain ⟨v, h', h1, h2⟩ := h m' hm D' E' K base fr' cs' w' s2
  rw [hb] at h2
  exact ⟨v, h', h1, Am.Ends.trans s1 s3 s4 s5 s6 s7 h2⟩
theorem AGo.done {m : AM} {v : AV} {h : AH} (hs : Am.step tab sub0 m = .ok (.done v h)) (hv : Ψ v h) : AGo P m Ψ := by
  intro D E K base frC csC w hR
  exact ⟨v, h, hv, step_sound pr.ok sub0_ok pr.ext (draw_sound pr.ok sub0_ok pr.ext pr.mix) hs hR⟩
end

def EffR (P : Program) (tab : Tab) (ts : T AV) (h0 : AH) (o : Oper) (Θ : AV → AH → Prop) : Prop :=
  (∃ v h1, pureOp tab ts h0 o = .ok (v, h1) ∧ h0.next ≤ h1.next ∧ Θ v h1) ∨
  (∃ c f g first captured args fn body, o.op = .call c ∧ c.callee = .value f ∧ ev ts f = .ok (.fn (.func g) first captured) ∧ evs ts c.args.toList = .ok args ∧
    tab.fns.get g = some fn ∧ fn.body = some body ∧ AGo P { fr := AFrame.enter fn g body (first ++ args ++ captured) .normal, cs := [], h := h0 } fun v h1 => h0.next ≤ h1.next ∧ Θ v h1)

theorem EffR.congr {P : Program} {tab : Tab} {ts ts' : T AV} {h0 : AH} {o : Oper} {Θ : AV → AH → Prop} (hops : ∀ x ∈ o.op.operands, ev ts x = ev ts' x) (hp : EffR P tab ts h0 o Θ) : EffR P tab ts' h0 o Θ := by
  rcases hp with ⟨v, h1, hp, hle, hΘ⟩ | ⟨c, f, g, first, captured, args, fn, body, hc, hcf, hu, hargs, hfn, hb', hgo⟩
  · exact .inl ⟨v, h1, by rw [← pureOp_congr o hops]; exact hp, hle, hΘ⟩
  · refine .inr ⟨c, f, g, first, captured, args, fn, body, hc, hcf, ?_, ?_, hfn, hb', hgo⟩
    · rw [← hops f (by simp [hc, Op.operands, Call.operands, hcf])]; exact hu
    · rw [← evs_congr c.args.toList fun x hx => hops x (by simp [hc, Op.operands, Call.operands, hcf]; right; simpa using hx)]; exact hargs

section
variable {P : Program} {tab : Tab} (pr : PrOK P tab)
variable {D : Nat → Prop} {E : Env} {K : KS} {base : List Frame} {frC : Frame} {csC : List Frame} {w : World}
variable {fr : AFrame} {cs : List AFrame} {h h0 : AH} {ops : Array Oper} {i : Nat} {rest : List Nat} {o : Oper}
include pr
theorem eff_stepR {Θ : AV → AH → Prop} (hR : Rel D E K { fr, cs, h } base frC csC w) (a : AtOp frC ops i rest o) (hp : EffR P tab fr.tmps h0 o Θ)
    (hs : ∀ i o, h0.get i = some o → h.get i = some o) (hd0 : ∀ i o, h0.get i = some o → i < h0.next) (hltD : ∀ i, D i → i < h0.next) :
    ∃ v h1, Θ v h1 ∧ h0.next ≤ h1.next ∧ ∀ fr' h2, fr.finish v = .ok fr' → (∀ i o, h2.get i = some o → h1.get i = some o ∨ (h.get i = some o ∧ h0.get i = none)) →
      (∀ i o, h2.get i = some o → i < h2.next ∨ (h1.get i = some o ∧ h1.next ≤ h2.next)) → h2.next = h1.next → Gets P h0.next (lone frC csC w) D E K { fr := fr', cs, h := h2 } base w := by
  rcases hp with ⟨v, h1, hp, hle, hΘ⟩ | ⟨c, f, g, first, captured, args, fn, body, hc, hcf, hu, hargs, hfn, hb, hgo⟩
  · refine ⟨v, h1, hΘ, hle, fun fr' h2 hf hg hd2 hnx => ?_⟩
    refine GetsN.gets (frame_step pr.ok hR a hp hf hs hd0 hg hd2 (fun i => i = h0.next ∧ h0.next < h1.next) (fun h => ⟨rfl, h⟩) (fun i hi => ⟨hi.1, fun hd => by have := hltD i hd; omega⟩) ?_) (by simp only; omega) (fun i hi => by omega)
    rintro i (hi | hi)
    · have := hltD i hi; omega
    · omega
  · have ok := pr.ok
    have hρ : ∀ E', Agree D E E' → ∀ x u, ev fr.tmps x = .ok u → frC.eval x = conc E' u := by
      intro E' he x u hx
      rw [← (hR.all E' he).2.1]
      exact ev_conc hR.wf.1 E' hx
    have hd : resolveV (.fn (.func g) first captured) args = .ok { target := .fn (.func g) captured, args := first ++ args } := rfl
    have hres : ∀ E', Agree D E E' → Deferred.ofValue (frC.eval f) (c.args.map frC.eval) = pure (concD E' { target := .fn (.func g) captured, args := first ++ args }) := by
      intro E' he
      rw [← resolve_conc hd E', hρ E' he _ _ hu, ← evs_run (hρ E' he) _ _ hargs]
      congr 1
      simp [← Array.toList_inj]
    have hrob := concD_robust hres
    have hnd : ∀ c', o.op ≠ .defer c' := by rw [hc]; intro c' e; cases e
    have hctx : Ctx P (lone frC csC w) frC csC w .normal (concD E { target := .fn (.func g) captured, args := first ++ args }) := ctx_apply a (.inr hnd) (by simp [execOp, hc, resolve, hcf, hres E (Agree.refl _ _)])
    have hinv : ∀ E', Agree D E E' → invoke (concD E { target := .fn (.func g) captured, args := first ++ args }).target (concD E { target := .fn (.func g) captured, args := first ++ args }).args = callFunc g (concL E' (first ++ args ++ captured)).toArray := by
      intro E' he
      rw [← hrob E' he]
      simp only [concD, concT, invoke, concL_append]
      simp
    have hP := ok.fns g fn hfn
    have hn : fn.name ≠ "runtime.NumGoroutine" := by simpa using ok.nng g fn hfn
    have hrun : ∀ a, (callFunc g a).run P w = .ok (.enter g a) w := by
      intro a
      simp [callFunc, hP, hn, hb]
    have hstep : ∀ E', Agree D E E' → Go.step P (lone frC csC w) = .next (lone (Frame.enter P g (concL E' (first ++ args ++ captured)).toArray .normal) (frC :: csC) w) := fun E' he =>
      hctx.enter _ _ _ (by rw [hinv E' he, hrun])
    have hargsC : ∀ E', Agree D E E' → (concL E' (first ++ args ++ captured)).toArray = (concL E (first ++ args ++ captured)).toArray := by
      intro E' he
      have h4 := hrun (concL E' (first ++ args ++ captured)).toArray
      rw [← hinv E' he, hinv E (Agree.refl _ _), hrun] at h4
      simpa using h4.symm
    have hRc : Rel D E (Am.Rest E h h0 K) { fr := AFrame.enter fn g body (first ++ args ++ captured) .normal, cs := [], h := h0 } (frC :: csC) (Frame.enter P g (concL E (first ++ args ++ captured)).toArray .normal) (frC :: csC) w := by
      refine ⟨fun E' he => ⟨?_, ?_, rfl⟩, hltD, enter_wf _ _ _ _ _, fun f hf => by cases hf⟩
      · rw [← hR.restEq he]; exact (hR.all E' he).1.part hs hd0
      · rw [← hargsC E' he, enter_conc hP hb]
    obtain ⟨v, h1, ⟨hle, hΘ⟩, he2⟩ := hgo D E (Am.Rest E h h0 K) (frC :: csC) _ _ w hRc
    refine ⟨v, h1, hΘ, hle, fun fr' h2 hf hg hd2 hnx => ?_⟩
    have hfc := finish_conc hf
    obtain ⟨fr1, w', vC, E', D', s1, s2, s3, s4, s5, s6, s7, s8, s9, s10⟩ := he2
    refine ⟨frC.finish vC, csC, w', E', D', ?_, ⟨?_, ?_, ?_⟩, s5, s6, s8.part, by simp only; omega, s10⟩
    · exact (Steps.head (hstep E (Agree.refl _ _)) s1).trans (.one (step_leave_returned s3))
    · intro E'' he'
      obtain ⟨g1, g2⟩ := s4 E'' he'
      have hag := s5.trans he' s6
      obtain ⟨k1, k2, k3⟩ := hR.all E'' hag
      refine ⟨k1.join (by rw [hR.restEq hag]; exact g1) (by rw [hR.restEq hag]; exact s8) hg (fun i o hi => (hd2 i o hi).elim id (fun h => Nat.lt_of_lt_of_le (g1.dom i o h.1) h.2)), ?_, k3⟩
      rw [← (hfc E'').1, ← g2, ← k2]
    · intro i hi; have := s7 i hi; simp only; omega
    · exact ⟨(hfc E).2.1 hR.wf.1, hR.wf.2⟩

theorem AGo.oper {Θ : AV → AH → Prop} {Ψ : AV → AH → Prop} {k : List AItem} (hm : fr.mode = .run) (ht : fr.todo = .inRegion ops (i :: rest) :: k) (ho : ops[i]? = some o) (hw : wanted ops o fr.tmps = .ok true)
    (hs : ∀ i o, h0.get i = some o → h.get i = some o) (hn : h0.next = h.next) (hp : EffR P tab fr.tmps h0 o Θ)
    (hk : ∀ v h1, Θ v h1 → ∀ fr' h2, fr.finish v = .ok fr' → h2.next = h1.next → (∀ i o, h2.get i = some o ↔ (h1.get i = some o ∨ (h.get i = some o ∧ h0.get i = none ∧ h1.get i = none))) → AGo P { fr := fr', cs, h := h2 } Ψ)
    (hfin : ∀ v, ∃ fr', fr.finish v = .ok fr') (hjoin : ∀ h1 : AH, ∃ h2 : AH, h2.next = h1.next ∧ ∀ i o, h2.get i = some o ↔ (h1.get i = some o ∨ (h.get i = some o ∧ h0.get i = none ∧ h1.get i = none))) : AGo P { fr, cs, h } Ψ := by
  intro D E K base frC csC w hR
  have hdom := (hR.all E (Agree.refl _ _)).1.dom
  have hd0 : ∀ i o, h0.get i = some o → i < h0.next := fun i o hi => by rw [hn]; exact hdom i o (hs i o hi)
  obtain ⟨v, h1, hΘ, hle, hgets⟩ := eff_stepR pr hR (atOp hR hm ht ho hw) hp hs hd0 (fun i hi => by rw [hn]; exact hR.dom i hi)
  obtain ⟨fr', hf⟩ := hfin v
  obtain ⟨h2, hn2, hg2⟩ := hjoin h1
  have hgo := hk v h1 hΘ fr' h2 hf hn2 hg2
  obtain ⟨frC', csC', w', E', D', s1, s2, s3, s4, s5, s6, s7⟩ := hgets fr' h2 hf (fun i o hi => ((hg2 i o).1 hi).imp id (fun x => ⟨x.1, x.2.1⟩))
    (fun i o hi => by
      rcases (hg2 i o).1 hi with g | ⟨g, _, _⟩
      · exact .inr ⟨g, by omega⟩
      · have := hdom i o g; simp only at this; left; omega) hn2
  obtain ⟨v', h', g1, g2⟩ := hgo D' E' K base frC' csC' w' s2
  refine ⟨v', h', g1, ?_⟩
  have hb := bot_fn (finish_conc hf E).2.2 cs
  rw [hb] at g2
  rw [hn] at s6 s7
  exact Am.Ends.trans s1 s3 s4 s5 s6 s7 g2
theorem AGo.oper1 {Θ : AV → AH → Prop} {Ψ : AV → AH → Prop} {k : List AItem} (hm : fr.mode = .run) (ht : fr.todo = .inRegion ops (i :: rest) :: k) (ho : ops[i]? = some o) (hw : wanted ops o fr.tmps = .ok true) (hp : EffR P tab fr.tmps h o Θ)
    (hfin : ∀ v, ∃ fr', fr.finish v = .ok fr') (hk : ∀ v h1, Θ v h1 → ∀ fr', fr.finish v = .ok fr' → AGo P { fr := fr', cs, h := h1 } Ψ) : AGo P { fr, cs, h } Ψ := by
  intro D E K base frC csC w hR
  have hdom := (hR.all E (Agree.refl _ _)).1.dom
  obtain ⟨v, h1, hΘ, hle, hgets⟩ := eff_stepR pr hR (atOp hR hm ht ho hw) hp (fun _ _ h => h) hdom (fun i hi => hR.dom i hi)
  obtain ⟨fr', hf⟩ := hfin v
  obtain ⟨frC', csC', w', E', D', s1, s2, s3, s4, s5, s6, s7⟩ := hgets fr' h1 hf (fun _ _ h => .inl h) (fun _ _ h => .inr ⟨h, Nat.le_refl _⟩) rfl
  obtain ⟨v', h', g1, g2⟩ := hk v h1 hΘ fr' hf D' E' K base frC' csC' w' s2
  refine ⟨v', h', g1, ?_⟩
  have hb := bot_fn (finish_conc hf E).2.2 cs
  rw [hb] at g2
  exact Am.Ends.trans s1 s3 s4 s5 s6 s7 g2
end
end Go.Sy

namespace Go.Sy
open Go.Am Go.RowKit
variable [Inhabited DrP]

def EffD (P : Program) (tab : Tab) (ops : Array Oper) (nt i : Nat) (o : Oper) (s : DS) (Φ : DS → Prop) : Prop :=
  opOk s.anc ops i o = true ∧ wanted ops o s.ts = .ok true ∧
  EffR P tab s.ts (hideAll s.h (s.allocs.filter fun x => !(memN x.1 (ancOf s.anc o)))) o fun v h1 =>
    reread tab ops (hideAll (restore h1 s.h (s.allocs.filter fun x => !(memN x.1 (ancOf s.anc o)))) (s.allocs.filter fun x => !(memN x.1 (ancOf s.anc o)))) (s.reads.filter fun x => !(memN x.1 (ancOf s.anc o))) = .ok () ∧
    Φ { ts := drawPut nt s.ts o v, h := restore h1 s.h (s.allocs.filter fun x => !(memN x.1 (ancOf s.anc o))), anc := s.anc.set i (some (ancOf s.anc o)), reads := s.reads.filter fun x => !(memN x.1 (ancOf s.anc o)), allocs := s.allocs.filter fun x => !(memN x.1 (ancOf s.anc o)) }
def TodoR (P : Program) (tab : Tab) (ops : Array Oper) (nt : Nat) (G : DS → Prop) : Nat → DS → Prop
  | 0, _ => False
  | n + 1, s => ∃ s1, drawPass tab ops nt 0 ops.toList s = .ok s1 ∧ ((cands s1.anc 0 ops.toList = [] ∧ G s1) ∨
      ∃ c o, cands s1.anc 0 ops.toList = [(c, o)] ∧ EffD P tab ops nt c o s1 (TodoR P tab ops nt G n))
def Todo1 (P : Program) (tab : Tab) (ops : Array Oper) (nt : Nat) (G : DS → Prop) (n : Nat) (s1 : DS) : Prop :=
  (cands s1.anc 0 ops.toList = [] ∧ G s1) ∨ ∃ c o, cands s1.anc 0 ops.toList = [(c, o)] ∧ EffD P tab ops nt c o s1 (TodoR P tab ops nt G n)

section
variable {P : Program} {tab : Tab} (pr : PrOK P tab)
variable {D : Nat → Prop} {E : Env} {K : KS} {base : List Frame} {frC : Frame} {csC : List Frame} {w : World}
variable {ops : Array Oper} {fr0 : AFrame} {cs : List AFrame} {k : List AItem} {lo : Nat} {s : DS} {Φ : DS → Prop} {X : Nat → Prop} {tsR : T AV} {hR : AH} {j : Nat} {l : List Nat} {o : Oper}

open Classical in
include pr in
theorem exec_effR (H : DInv tab ops fr0.nt fr0.tmps lo s X) (Q : RInv ops fr0 cs k base s X D E K tsR hR (j :: l) frC csC w) (hm : fr0.mode = .run) (ho : ops[j]? = some o) (hr : isReady s.anc j o = true)
    (hd : EffD P tab ops fr0.nt j o s Φ) (hready : ∀ p ∈ preOf o, X p) : ∃ s2, Φ s2 ∧ DInv tab ops fr0.nt fr0.tmps lo s2 (fun i => X i ∨ i = j) ∧ Comes1 P ops fr0 cs k base s2 (fun i => X i ∨ i = j) D E K lo l frC csC w := by
  obtain ⟨hok, hb, hp⟩ := hd
  obtain ⟨hnone, hpre⟩ := isReady_ok hr
  obtain ⟨hok1, hok2⟩ := opOk_ok hok
  have hxj : ¬ X j := fun h => by have := H.cx j h; rw [hnone] at this; cases this
  have hanX : ∀ p ∈ ancOf s.anc o, X p := by
    intro p hp
    rcases mem_ancOf.1 hp with h | ⟨q, hq, ap, h1, h2⟩
    · exact hready p h
    · exact H.xdn q ap (hready q hq) h1 p h2
  generalize hhid : (s.allocs.filter fun x => !(memN x.1 (ancOf s.anc o))) = hid at *
  have hidm : ∀ x, x ∈ hid ↔ x ∈ s.allocs ∧ x.1 ∉ ancOf s.anc o := by
    intro x
    rw [← hhid, List.mem_filter]
    constructor
    · rintro ⟨h1, h2⟩
      refine ⟨h1, fun hm => ?_⟩
      rw [memN_iff.2 hm] at h2; cases h2
    · rintro ⟨h1, h2⟩
      refine ⟨h1, ?_⟩
      cases hb : memN x.1 (ancOf s.anc o) with
      | true => exact absurd (memN_iff.1 hb) h2
      | false => rfl
  have hidj : ∀ x ∈ hid, x.1 ≠ j := by
    intro x hx e
    have := (H.al x ((hidm x).1 hx).1).2.1
    rw [e, hnone] at this; cases this
  -- what it looks at
  have hl : ∀ t ∈ looks ops o, tsR.get t = s.ts.get t := by
    intro t ht
    by_cases hw : ∃ jj oj, ops[jj]? = some oj ∧ oj.dst = some t ∧ (s.anc.get jj).isSome
    · obtain ⟨jj, oj, g1, g2, g3⟩ := hw
      exact Q.tr1 jj oj t (hready jj (hok1 t ht jj oj g1 g2 g3)) g1 g2
    · rw [Q.tr0 t (fun jj oj hx hoj hd => hw ⟨jj, oj, hoj, hd, H.cx jj hx⟩), H.tsC t (fun jj oj hc hoj hd => hw ⟨jj, oj, hoj, hd, hc⟩)]
  obtain ⟨hops, hwant⟩ := looks_spec hl
  have a := atOp Q.rel hm rfl ho (by rw [hwant]; exact hb)
  obtain ⟨v, h1, ⟨hrr, hΦ⟩, hle, hgets0⟩ := eff_stepR pr Q.rel a (h0 := hideAll s.h hid) (hp.congr (fun x hx => (hops x hx).symm))
    (by
      intro i ob h
      rw [hideAll_get] at h
      split at h
      · cases h
      · rename_i hne
        refine (Q.hr i ob).2 ⟨h, fun x hx e => ?_⟩
        by_cases hc : x.1 ∈ ancOf s.anc o
        · exact hanX _ hc
        · exact absurd ⟨x, (hidm x).2 ⟨hx, hc⟩, e⟩ hne)
    (by
      intro i ob h
      rw [hideAll_get] at h
      split at h
      · cases h
      · rw [hideAll_next]; exact H.hd i ob h)
    (by intro i hi; rw [hideAll_next, ← Q.hn]; exact Q.rel.dom i hi)
  rw [hideAll_next] at hle
  have hfin := finish_draw (fr0 := fr0) (tsR := tsR) (l := l) (k := k) ho v
  let h2 := restore h1 s.h hid
  let pd := hid.filter fun x => decide (¬ (X x.1 ∨ x.1 = j))
  let hR2 := hideAll h2 pd
  have hg2 : ∀ i, h2.get i = if ∃ x ∈ hid, x.2 = i then s.h.get i else h1.get i := fun i => restore_get _ _ _ _
  have hn2 : h2.next = h1.next := restore_next _ _ _
  have hchar : ∀ i ob, hR2.get i = some ob ↔ h2.get i = some ob ∧ ∀ x ∈ hid, x.2 = i → X x.1 ∨ x.1 = j := by
    intro i ob
    simp only [hR2, hideAll_get]
    constructor
    · intro h
      split at h
      · cases h
      · rename_i hne
        refine ⟨h, fun x hx e => ?_⟩
        by_cases hc : X x.1 ∨ x.1 = j
        · exact hc
        · exact absurd ⟨x, by simp only [pd, List.mem_filter]; exact ⟨hx, by simpa using hc⟩, e⟩ hne
    · rintro ⟨h1, h2⟩
      rw [if_neg]
      · exact h1
      · rintro ⟨x, hx, e⟩
        simp only [pd, List.mem_filter] at hx
        have := h2 x hx.1 e
        exact absurd this (by simpa using hx.2)
  have hR2n : hR2.next = h1.next := (hideAll_next _ _).trans hn2
  have hgets := hgets0 _ hR2 hfin
    (by
      intro i ob h
      obtain ⟨h3, h4⟩ := (hchar i ob).1 h
      rw [hg2] at h3
      split at h3
      · rename_i hex
        right
        refine ⟨(Q.hr i ob).2 ⟨h3, fun x hx e => ?_⟩, by rw [hideAll_get, if_pos hex]⟩
        obtain ⟨y, hy, e'⟩ := hex
        have : x = y := H.alu x hx y ((hidm y).1 hy).1 (e.trans e'.symm)
        subst this
        exact (h4 x hy e').resolve_right (hidj x hy)
      · exact .inl h3)
    (by
      intro i ob h
      obtain ⟨h3, _⟩ := (hchar i ob).1 h
      rw [hg2] at h3
      rw [hR2n]
      split at h3
      · have := H.hd i ob h3; left; omega
      · exact .inr ⟨h3, Nat.le_refl _⟩)
    hR2n
  obtain ⟨frC', csC', w', E1, D1, s1, rel1, ag1, dd1, kp1, _, new1⟩ := hgets
  rw [hideAll_next] at new1
  have hdom2 : ∀ i ob, h2.get i = some ob → i < h2.next := by
    intro i ob h
    rw [hn2]
    rw [hg2] at h
    split at h
    · have := H.hd i ob h; omega
    · rename_i hne
      have h3 := (hchar i ob).2 ⟨by rw [hg2, if_neg hne]; exact h, fun x hx e => absurd ⟨x, hx, e⟩ hne⟩
      have := (rel1.all E1 (Agree.refl _ _)).1.dom i ob h3
      rw [← hR2n]; exact this
  refine ⟨_, hΦ, ?_, drawPut fr0.nt tsR o v, hR2, frC', csC', w', D1, E1, s1, ⟨rel1, hchar, hR2n.trans hn2.symm, ?_, ?_, ?_⟩, ag1, dd1, kp1, ?_⟩
  · refine H.eff ho hr hok hanX rfl rfl (by simp only; rw [restore_next]; exact hle) (fun x hx => ((hidm x).1 hx).1) (fun x hx hn => (hidm x).2 ⟨hx, hn⟩) ?_ hdom2 ?_
    · intro x hx
      show h2.get x.2 = s.h.get x.2
      rw [hg2, if_pos ⟨x, hx, rfl⟩]
    · intro j' oj tj vj hmr hjan hoj hce hca
      have hmf : (j', tj, vj) ∈ s.reads.filter (fun x => !(memN x.1 (ancOf s.anc o))) := by
        rw [List.mem_filter]
        refine ⟨hmr, ?_⟩
        cases hb : memN j' (ancOf s.anc o) with
        | true => exact absurd (memN_iff.1 hb) hjan
        | false => rfl
      refine ⟨hmf, ?_⟩
      obtain ⟨oj', hr', g1, g2⟩ := reread_ok _ hrr _ _ _ hmf
      rw [hoj] at g1
      cases g1
      have hsame := pureOp_same ⟨hce, hca⟩ g2
      subst hsame
      refine ⟨_, g2, ?_⟩
      intro b ob hg
      rw [hideAll_get] at hg
      split at hg
      · cases hg
      · rename_i hne
        exact ⟨by rw [hideAll_next]; exact hdom2 b ob hg, hg, fun x hx e => hne ⟨x, hx, e⟩⟩
  · intro i oi t hi hoi hd
    show (drawPut fr0.nt tsR o v).get t = (drawPut fr0.nt s.ts o v).get t
    rw [drawPut_get, drawPut_get]
    by_cases hc : o.dst = some t ∧ t < fr0.nt
    · rw [if_pos hc, if_pos hc]
    · rw [if_neg hc, if_neg hc]
      rcases hi with hi | rfl
      · exact Q.tr1 i oi t hi hoi hd
      · rw [ho] at hoi
        cases hoi
        have hge : fr0.nt ≤ t := Nat.le_of_not_lt (fun hlt => hc ⟨hd, hlt⟩)
        rw [H.tsw t hge]
        exact Q.rel.wf.1 t hge
  · intro t ht
    rw [drawPut_get, if_neg (fun h => ht j o (.inr rfl) ho h.1)]
    exact Q.tr0 t (fun i oi hi hoi => ht i oi (.inl hi) hoi)
  · intro x hx hnx hD
    have hxm := ((hidm x).1 hx).1
    rcases new1 x.2 hD with hd | hd
    · exact Q.dp x hxm (fun h => hnx (.inl h)) hd
    · have := (H.al x hxm).1; omega
  · intro i hi
    rcases new1 i hi with h | h
    · exact .inl h
    · exact .inr (Nat.le_trans H.nx h)
end
section
variable {P : Program} {tab : Tab} (pr : PrOK P tab)
variable {K : KS} {base : List Frame}
variable {ops : Array Oper} {fr0 : AFrame} {cs : List AFrame} {k : List AItem} {lo : Nat}

def FinR (P : Program) (fr0 : AFrame) (cs : List AFrame) (k : List AItem) (base : List Frame) (K : KS) (lo : Nat) (G : DS → Prop) (D : Nat → Prop) (E : Env) (frC : Frame) (csC : List Frame) (w : World) : Prop :=
  ∃ sF frC' csC' w' D' E', G sF ∧ Steps P (lone frC csC w) (lone frC' csC' w') ∧ Rel D' E' K { fr := { fr0 with tmps := sF.ts, todo := k }, cs, h := sF.h } base frC' csC' w' ∧ Agree D E E' ∧ (∀ i, D i → D' i) ∧ Kept K w w' ∧ (∀ i, D' i → D i ∨ lo ≤ i) ∧ lo ≤ sF.h.next

include pr in
theorem midR (hm : fr0.mode = .run) (hlt : preLt 0 ops.toList = true) : ∀ (fuel t : Nat) (listed : Array Bool) (s : DS) (G : DS → Prop) (n : Nat) (D : Nat → Prop) (E : Env) (tsR : T AV) (hR : AH) (frC : Frame) (csC : List Frame) (w : World),
    listed.size = ops.size → unl ops.size listed ≤ fuel → Todo1 P tab ops fr0.nt G n s → DInv tab ops fr0.nt fr0.tmps lo s (Xof listed) →
    RInv ops fr0 cs k base s (Xof listed) D E K tsR hR (Region.linearise.go .any ops fuel t listed []) frC csC w → FinR P fr0 cs k base K lo G D E frC csC w := by
  -- the end
  have hend : ∀ (listed : Array Bool) (s : DS) (G : DS → Prop) (n : Nat) (D : Nat → Prop) (E : Env) (tsR : T AV) (hR : AH) (frC : Frame) (csC : List Frame) (w : World), (∀ j, j < ops.size → Xof listed j) →
      Todo1 P tab ops fr0.nt G n s → DInv tab ops fr0.nt fr0.tmps lo s (Xof listed) → RInv ops fr0 cs k base s (Xof listed) D E K tsR hR [] frC csC w → FinR P fr0 cs k base K lo G D E frC csC w := by
    intro listed s G n D E tsR hR frC csC w hall htodo H Q
    rcases htodo with ⟨_, hG⟩ | ⟨c, o, hc, _⟩
    · have hts : ∀ t, tsR.get t = s.ts.get t := by
        intro t
        by_cases hw : ∃ (j : Nat) (oj : Oper), ops[j]? = some oj ∧ oj.dst = some t
        · obtain ⟨j, oj, h1, h2⟩ := hw
          exact Q.tr1 j oj t (hall j (Array.getElem?_eq_some_iff.1 h1).1) h1 h2
        · rw [Q.tr0 t (fun j oj _ h1 h2 => hw ⟨j, oj, h1, h2⟩), H.tsC t (fun j oj _ h1 h2 => hw ⟨j, oj, h1, h2⟩)]
      have hst : ∀ E', Go.step P (lone (concF E' { fr0 with tmps := tsR, todo := .inRegion ops [] :: k }) csC w) = .next (lone (concF E' { fr0 with tmps := tsR, todo := k }) csC w) :=
        fun E' => step_lone_go (by simp [stepG, stepG.exec, concF, hm, concM, concI])
      have hconc : ∀ E', concF E' { fr0 with tmps := s.ts, todo := k } = concF E' { fr0 with tmps := tsR, todo := k } := by
        intro E'
        have : concTmps E' s.ts fr0.nt = concTmps E' tsR fr0.nt := by
          unfold concTmps tmpAt
          simp only [hts]
        simp only [concF, this]
      have hfr := (Q.rel.all E (Agree.refl _ _)).2.1
      simp only at hfr
      refine ⟨s, concF E { fr0 with tmps := tsR, todo := k }, csC, w, D, E, hG, .one (by rw [← hfr]; exact hst E), ⟨fun E' he => ?_, fun i hi => ?_, ?_, Q.rel.wf.2⟩, Agree.refl _ _, fun _ h => h, Kept.refl K w, fun i hi => .inl hi, H.nx⟩
      · obtain ⟨g1, g2, g3⟩ := Q.rel.all E' he
        refine ⟨g1.same (fun i ob h => (Q.hr i ob).2 ⟨h, fun x hx _ => ?_⟩) (by simp only; rw [Q.hn]; exact Nat.le_refl _), ?_, g3⟩
        · obtain ⟨o, ho⟩ := H.op _ (H.al x hx).2.1
          exact hall _ (Array.getElem?_eq_some_iff.1 ho).1
        · simp only
          rw [hconc E']
          have h1 := hst E'
          simp only at g2
          rw [g2, ← hfr, hst E] at h1
          exact (lone_inj (by simpa using h1)).1.symm
      · have := Q.rel.dom i hi
        simp only at this ⊢
        rw [Q.hn] at this; exact this
      · intro t ht
        have := Q.rel.wf.1 t ht
        simp only at this ⊢
        rw [← hts t]; exact this
    · have hcm : (c, o) ∈ cands s.anc 0 ops.toList := by rw [hc]; exact List.mem_cons_self
      obtain ⟨j', h1, h2, h3⟩ := cands_sound _ _ _ _ _ hcm
      have hlt' : c < ops.size := by
        have := (List.getElem?_eq_some_iff.1 h2).1
        simp at this; omega
      have := H.cx c (hall c hlt')
      rw [(isReady_ok h3).1] at this
      cases this
  intro fuel
  induction fuel with
  | zero =>
    intro t listed s G n D E tsR hR frC csC w hsz hu htodo H Q
    exact hend listed s G n D E tsR hR frC csC w (unl_zero (by omega)) htodo H (by simpa [Region.linearise.go] using Q)
  | succ fuel ih =>
    intro t listed s G n D E tsR hR frC csC w hsz hu htodo H Q
    simp only [Region.linearise.go] at Q
    change RInv ops fr0 cs k base s (Xof listed) D E K tsR hR (match (Region.ready .any ops listed)[t % (Region.ready .any ops listed).length]? with
      | some i => Region.linearise.go .any ops fuel (t / (Region.ready .any ops listed).length) (listed.setIfInBounds i true) [i]
      | none => [].reverse) frC csC w at Q
    have hget : ∀ j, j < ops.size → (listed.getD j true = false ↔ ¬ Xof listed j) := by
      intro j hj
      unfold Xof
      have : j < listed.size := by omega
      simp [Array.getD, this]
    cases hi : (Region.ready .any ops listed)[t % (Region.ready .any ops listed).length]? with
    | none =>
      rw [hi] at Q
      have hnil : Region.ready .any ops listed = [] := by
        cases hr : Region.ready .any ops listed with
        | nil => rfl
        | cons x xs =>
          rw [hr] at hi
          have hlt : t % (x :: xs).length < (x :: xs).length := Nat.mod_lt _ (by simp)
          rw [List.getElem?_eq_none_iff] at hi
          omega
      have hall : ∀ j, j < ops.size → Xof listed j := by
        intro j
        induction j using Nat.strongRecOn with
        | _ j ihj =>
          intro hj
          by_cases hx : Xof listed j
          · exact hx
          · exfalso
            have hm' : j ∈ Region.ready .any ops listed := by
              rw [mem_ready]
              refine ⟨(hget j hj).2 hx, ops[j], Array.getElem?_eq_getElem hj, ?_⟩
              intro e he hb
              have hp : e.on ∈ preOf ops[j] := List.mem_map.2 ⟨e, List.mem_filter.2 ⟨by simpa using he, hb⟩, rfl⟩
              have hlt' := preLt_ok ops.toList 0 hlt j ops[j] (by simp [hj]) e.on hp
              exact ihj e.on (by omega) (by omega)
            rw [hnil] at hm'
            cases hm'
      exact hend listed s G n D E tsR hR frC csC w hall htodo H Q
    | some i =>
      rw [hi] at Q
      simp only at Q
      rw [linearise_go_acc, List.reverse_singleton, List.singleton_append] at Q
      obtain ⟨hl1, o, ho, hdeps⟩ := mem_ready.1 (List.mem_of_getElem? hi)
      have hin : i < ops.size := (Array.getElem?_eq_some_iff.1 ho).1
      have hx := (hget i hin).1 hl1
      have hready : ∀ p ∈ preOf o, Xof listed p := by
        intro p hp
        obtain ⟨e, he, rfl⟩ := List.mem_map.1 hp
        obtain ⟨he1, he2⟩ := List.mem_filter.1 he
        exact hdeps e (by simpa using he1) he2
      have hsz' : (listed.setIfInBounds i true).size = ops.size := by simp [hsz]
      have hu' : unl ops.size (listed.setIfInBounds i true) ≤ fuel := by
        have := unl_set hin (by omega) hx; omega
      have hX' : Xof (listed.setIfInBounds i true) = fun j => Xof listed j ∨ j = i := Xof_set (by omega)
      have hfin : ∀ (s' : DS) (n' : Nat), Todo1 P tab ops fr0.nt G n' s' → DInv tab ops fr0.nt fr0.tmps lo s' (fun j => Xof listed j ∨ j = i) →
          Comes1 P ops fr0 cs k base s' (fun j => Xof listed j ∨ j = i) D E K lo (Region.linearise.go .any ops fuel (t / (Region.ready .any ops listed).length) (listed.setIfInBounds i true) []) frC csC w → FinR P fr0 cs k base K lo G D E frC csC w := by
        intro s' n' htd H' hc
        obtain ⟨tsR', hR', frC', csC', w', D', E', c1, c2, c3, c4, c5, c6⟩ := hc
        obtain ⟨sF, frF, cSF, wF, DF, EF, f0, f1, f2, f3, f4, f5, f6, f7⟩ := ih _ (listed.setIfInBounds i true) s' G n' D' E' tsR' hR' frC' csC' w' hsz' hu' htd (by rw [hX']; exact H') (by rw [hX']; exact c2)
        exact ⟨sF, frF, cSF, wF, DF, EF, f0, c1.trans f1, f2, c3.trans f3 c4, fun x hx => f4 x (c4 x hx), c5.trans f5, fun x hx => (f6 x hx).elim (c6 x) .inr, f7⟩
      by_cases hC : (s.anc.get i).isSome = true
      · exact hfin s n htodo (H.come hC ho hready) (exec_pend pr.ok H Q hm ho hC hx hready)
      · have hr : isReady s.anc i o = true := by
          unfold isReady
          simp only [Bool.and_eq_true, List.all_eq_true]
          exact ⟨by simpa using hC, fun p hp => H.cx p (hready p hp)⟩
        have hcm : (i, o) ∈ cands s.anc 0 ops.toList := by
          have := cands_ok ops.toList 0 s.anc i o (by simpa using ho) (by simpa using hr)
          simpa using this
        rcases htodo with ⟨hc, _⟩ | ⟨c, o', hc, hd⟩
        · rw [hc] at hcm; cases hcm
        · rw [hc] at hcm
          rcases List.mem_cons.1 hcm with e | hcm
          · cases e
            obtain ⟨s2, hloop, H2, tsR', hR', frC', csC', w', D', E', c1, c2, c3, c4, c5, c6⟩ := exec_effR pr H Q hm ho hr hd hready
            cases n with
            | zero => exact hloop.elim
            | succ n =>
              obtain ⟨s3, hpass, htd3⟩ := hloop
              have hpl : ∀ j o, ops.toList[j]? = some o → ops[0 + j]? = some o := by
                intro j o hj; simpa using hj
              obtain ⟨hR3, Q3⟩ := pass_look ops.toList 0 s2 s3 hR' hpl hpass H2 c2
              exact hfin s3 n htd3 (drawPass_ok ops.toList 0 s2 s3 hpl hpass H2) ⟨tsR', hR3, frC', csC', w', D', E', c1, Q3, c3, c4, c5, c6⟩
          · cases hcm

include pr in
theorem AGo.draw {Ψ : AV → AH → Prop} {h : AH} {id : Nat} {n : Nat} (hm : fr0.mode = .run) (ht : fr0.todo = .code (.region id ops true) :: k) (hlt : preLt 0 ops.toList = true)
    (hd : TodoR P tab ops fr0.nt (fun sF => AGo P { fr := { fr0 with tmps := sF.ts, todo := k }, cs, h := sF.h } Ψ) n { ts := fr0.tmps, h, anc := .e, reads := [], allocs := [] }) : AGo P { fr := fr0, cs, h } Ψ := by
  intro D E K base frC csC w hR
  obtain ⟨n, rfl⟩ : ∃ n', n = n' + 1 := by
    cases n with
    | zero => exact hd.elim
    | succ n => exact ⟨n, rfl⟩
  obtain ⟨s1, hpass, htodo⟩ := hd
  let s0 : DS := { ts := fr0.tmps, h, anc := .e, reads := [], allocs := [] }
  let ord := w.tape w.drawn (.order frC.fn id)
  let l := Go.Region.linearise.go .any ops ops.size ord (Array.replicate ops.size false) []
  have hstep : ∀ E', Agree D E E' → Go.step P (lone frC csC w) = .next (lone (concF E' { fr0 with tmps := fr0.tmps, todo := .inRegion ops l :: k }) csC w.drew) := by
    intro E' he
    have e1 := (hR.all E' he).2.1
    simp only at e1
    refine step_lone_go ?_
    have hmC : frC.mode = .run := by rw [← e1]; simp [concF, hm, concM]
    have htC : frC.todo = .code (.region id ops true) :: k.map (concI E') := by rw [← e1]; simp [concF, ht, concI]
    have hrun : (choose (.order frC.fn id)).run P w = .ok ord w.drew := by
      simp only [choose, Sem.run, Question.forced, Bool.false_eq_true, if_false, Question.cut]
      rfl
    have hsch : Go.Region.schedule (P.follows .mixedOrders) ops ord = l := by
      simp only [Go.Region.schedule, pr.mix, Bool.true_or, if_true]
      rfl
    have hgoal : concF E' { fr0 with tmps := fr0.tmps, todo := .inRegion ops l :: k } = { frC with todo := .inRegion ops l :: k.map (concI E') } := by
      rw [← e1]; rfl
    rw [hgoal]
    unfold stepG stepG.exec
    simp only [hmC, htC, Bool.not_true, Bool.false_eq_true, if_false, hrun, hsch, GStep.bare_go]
  have hdom := (hR.all E (Agree.refl _ _)).1.dom
  have H0 : DInv tab ops fr0.nt fr0.tmps h.next s0 (Xof (Array.replicate ops.size false)) := by
    have hnone : ∀ j, s0.anc.get j = none := fun _ => rfl
    refine ⟨fun j hj => absurd hj (Xof_none _ _), fun j a hj => absurd hj (Xof_none _ _), ?_, ?_, ?_, fun _ _ => rfl, ?_, fun x hx => (by cases hx), Nat.le_refl _, hR.wf.1, fun x hx => (by cases hx), hdom⟩
    · intro j hj; rw [hnone] at hj; cases hj
    · intro j a o hj; rw [hnone] at hj; cases hj
    · intro i j oi oj d hi; rw [hnone] at hi; cases hi
    · intro j hj; rw [hnone] at hj; cases hj
  have Q0 : RInv ops fr0 cs k base s0 (Xof (Array.replicate ops.size false)) D E K fr0.tmps h l (concF E { fr0 with tmps := fr0.tmps, todo := .inRegion ops l :: k }) csC w.drew := by
    refine ⟨⟨fun E' he => ?_, hR.dom, hR.wf⟩, fun i ob => ⟨fun h => ⟨h, fun x hx => (by cases hx)⟩, fun h => h.1⟩, rfl, fun j o t hx => absurd hx (Xof_none _ _), fun _ _ => rfl, fun x hx => by cases hx⟩
    obtain ⟨g1, g2, g3⟩ := hR.all E' he
    refine ⟨g1.drew, ?_, g3⟩
    have h1 := hstep E' he
    rw [hstep E (Agree.refl _ _)] at h1
    exact (lone_inj (by simpa using h1)).1.symm
  have htodo : Todo1 P tab ops fr0.nt (fun sF => AGo P { fr := { fr0 with tmps := sF.ts, todo := k }, cs, h := sF.h } Ψ) n s1 := htodo
  have hpl : ∀ j o, ops.toList[j]? = some o → ops[0 + j]? = some o := by
    intro j o hj; simpa using hj
  obtain ⟨hR1, Q1⟩ := pass_look ops.toList 0 s0 s1 h hpl hpass H0 Q0
  have H1 := drawPass_ok ops.toList 0 s0 s1 hpl hpass H0
  obtain ⟨sF, frC', csC', w', D', E', f0, f1, f2, f3, f4, f5, f6, f7⟩ := midR pr hm hlt ops.size ord (Array.replicate ops.size false) s1 _ n D E fr0.tmps hR1 _ csC w.drew (by simp)
    (by unfold unl; have := List.length_filter_le (fun i => !(Array.replicate ops.size false).getD i false) (List.range ops.size); simpa using this) htodo H1 Q1
  obtain ⟨v, h', g1, g2⟩ := f0 D' E' K base frC' csC' w' f2
  have hb : bot { fr0 with tmps := sF.ts, todo := k } cs = bot fr0 cs := bot_fn (fr := fr0) (fr' := { fr0 with tmps := sF.ts, todo := k }) rfl cs
  simp only at g2
  rw [hb] at g2
  exact ⟨v, h', g1, Am.Ends.trans (Steps.head (hstep E (Agree.refl _ _)) f1) f3 f4 ((Kept.drew K w).trans f5) f7 f6 g2⟩
end
end Go.Sy

namespace Go.Sy
open Go.Am Go.RowKit
universe u v
variable [Inhabited DrP]

structure BI where
  β : Nat
  len : Nat
  sz : Nat
  cap : Option Cap
structure Cx where
  ρ : Nat → Option BI
  Fz : Nat → Option AO

def capOK (cap : Cap) (off n sz : Nat) (ext : Bool) : Prop :=
  match cap with
  | .lit m => n ≤ m
  | .tail k => ext = true ∧ off = k * sz

def CellsAt (Fz : Nat → Option AO) (b : Nat) (cs : List AV) (e : TypeId) (sz : Nat) (ext : Bool) (bk : BK) : Prop :=
  ∃ sz0 ext0, Fz b = some (.cells cs e sz0 ext0 bk) ∧ (ext = true → sz0 = sz ∧ ext0 = true)
theorem CellsAt.of {Fz : Nat → Option AO} {b : Nat} {cs : List AV} {e : TypeId} {sz : Nat} {ext : Bool} {bk : BK} (h : Fz b = some (.cells cs e sz ext bk)) : CellsAt Fz b cs e sz ext bk := ⟨sz, ext, h, fun h => ⟨rfl, h⟩⟩
theorem CellsAt.mono {Fz Fz' : Nat → Option AO} (hf : ∀ i o, Fz i = some o → Fz' i = some o) {b : Nat} {cs : List AV} {e : TypeId} {sz : Nat} {ext : Bool} {bk : BK} (h : CellsAt Fz b cs e sz ext bk) : CellsAt Fz' b cs e sz ext bk := by
  obtain ⟨s, x, h1, h2⟩ := h
  exact ⟨s, x, hf _ _ h1, h2⟩
inductive SimP (Fz : Nat → Option AO) : SV → AV → Prop
  | bool (b : Bool) : SimP Fz (.bool b) (.bool b)
  | int (k : IntKind) (n : Int) : SimP Fz (.int k n) (.int k n)
  | str (s : List UInt8) : SimP Fz (.str s) (.str s)
  | nilp : SimP Fz .nilp .nilp
  | nils : SimP Fz .nils .nils
  | nilm : SimP Fz .nilm .nilm
  | nilf : SimP Fz .nilf .nilf
  | any (v : AV) : SimP Fz .any v
  | lst0 {X : Type} {L : List X} {enc : X → List SV} {v : AV} (h0 : L.length = 0) (hv : v = .nils ∨ (∃ b off l n k, v = .emp b off l n k) ∨ ∃ a c, v = .raw (.slice a 0 c)) : SimP Fz (.lst X L enc) v
  | lst {X : Type} {L : List X} {enc : X → List SV} (b off : Nat) (cap : Cap) (cs : List AV) (e : TypeId) (sz : Nat) (ext : Bool) (bk : BK) (u : Nat → Nat → AV)
      (hb : CellsAt Fz b cs e sz ext bk) (hs : 0 < sz) (hl : off + L.length * sz ≤ cs.length) (hn : ∀ (i : Nat) x, L[i]? = some x → (enc x).length = sz) (hc : capOK cap off L.length sz ext)
      (h1 : ∀ (i : Nat) x (j : Nat) v, L[i]? = some x → (enc x)[j]? = some v → cs[off + i * sz + j]? = some (u i j)) (h2 : ∀ (i : Nat) x (j : Nat) v, L[i]? = some x → (enc x)[j]? = some v → SimP Fz v (u i j)) : SimP Fz (.lst X L enc) (.sl b off L.length cap)
  | rptr {cs : List SV} {off : Nat} (b base : Nat) (ca : List AV) (e : TypeId) (sz : Nat) (ext : Bool) (bk : BK) (u : Nat → AV) (hb : Fz b = some (.cells ca e sz ext bk)) (hl : base + cs.length ≤ ca.length)
      (h1 : ∀ (j : Nat) v, cs[j]? = some v → ca[base + j]? = some (u j)) (h2 : ∀ (j : Nat) v, cs[j]? = some v → SimP Fz v (u j)) : SimP Fz (.rptr cs off) (.ptr b (base + off))
  | fn {f : FuncId} {xs ys : List SV} {us vs : List AV} (h1 : xs.length = us.length) (h2 : ys.length = vs.length) (h3 : ∀ (i : Nat) x u, xs[i]? = some x → us[i]? = some u → SimP Fz x u) (h4 : ∀ (i : Nat) x u, ys[i]? = some x → vs[i]? = some u → SimP Fz x u) : SimP Fz (.fn f xs ys) (.fn (.func f) us vs)
  | agg {cs : List SV} {vs : List AV} (h1 : cs.length = vs.length) (h2 : ∀ (i : Nat) c v, cs[i]? = some c → vs[i]? = some v → SimP Fz c v) : SimP Fz (.agg cs) (.agg vs)
  | tup {cs : List SV} {vs : List AV} (h1 : cs.length = vs.length) (h2 : ∀ (i : Nat) c v, cs[i]? = some c → vs[i]? = some v → SimP Fz c v) : SimP Fz (.tup cs) (.tup vs)

inductive SimV (C : Cx) : SV → AV → Prop
  | pure {s : SV} {v : AV} (h : SimP C.Fz s v) : SimV C s v
  | ptr {b off : Nat} {I : BI} (h : C.ρ b = some I) : SimV C (.ptr b off) (.ptr I.β off)
  | eptr {b i off : Nat} {I : BI} (h : C.ρ b = some I) (hc : I.cap.isSome) : SimV C (.eptr b i off) (.ptr I.β (i * I.sz + off))
  | own0 {b : Nat} {I : BI} (h : C.ρ b = some I) (hc : I.cap = none) : SimV C (.own b) .nils
  | own {b : Nat} {I : BI} {c : Cap} (h : C.ρ b = some I) (hc : I.cap = some c) : SimV C (.own b) (.sl I.β 0 I.len c)
  | sl {b off n c : Nat} {I : BI} (h : C.ρ b = some I) : SimV C (.sl b off n c) (.sl I.β off n (.lit c))
  | fn {f : FuncId} {xs ys : List SV} {us vs : List AV} (h1 : xs.length = us.length) (h2 : ys.length = vs.length) (h3 : ∀ (i : Nat) x u, xs[i]? = some x → us[i]? = some u → SimV C x u) (h4 : ∀ (i : Nat) x u, ys[i]? = some x → vs[i]? = some u → SimV C x u) : SimV C (.fn f xs ys) (.fn (.func f) us vs)
  | agg {cs : List SV} {vs : List AV} (h1 : cs.length = vs.length) (h2 : ∀ (i : Nat) c v, cs[i]? = some c → vs[i]? = some v → SimV C c v) : SimV C (.agg cs) (.agg vs)
  | tup {cs : List SV} {vs : List AV} (h1 : cs.length = vs.length) (h2 : ∀ (i : Nat) c v, cs[i]? = some c → vs[i]? = some v → SimV C c v) : SimV C (.tup cs) (.tup vs)

theorem beq_ne {b c : Nat} (h : ¬ b = c) : Nat.beq b c = false := Bool.eq_false_iff.2 fun e => h (Nat.eq_of_beq_eq_true e)
def SimL (C : Cx) (l : List SV) (m : List AV) : Prop := l.length = m.length ∧ ∀ (i : Nat) s v, l[i]? = some s → m[i]? = some v → SimV C s v
theorem SimL.nil {C : Cx} : SimL C [] [] := ⟨rfl, fun i s v h => by simp at h⟩
theorem SimL.cons {C : Cx} {s : SV} {v : AV} {l : List SV} {m : List AV} (h : SimV C s v) (t : SimL C l m) : SimL C (s :: l) (v :: m) := by
  refine ⟨by simp [t.1], fun i a b ha hb => ?_⟩
  cases i with
  | zero => simp at ha hb; subst ha; subst hb; exact h
  | succ i => exact t.2 i a b (by simpa using ha) (by simpa using hb)
theorem SimL.head {C : Cx} {s : SV} {v : AV} {l : List SV} {m : List AV} (h : SimL C (s :: l) (v :: m)) : SimV C s v ∧ SimL C l m :=
  ⟨h.2 0 s v rfl rfl, by simpa using h.1, fun i a b ha hb => h.2 (i + 1) a b (by simpa using ha) (by simpa using hb)⟩
theorem SimL.append {C : Cx} {l l' : List SV} {m m' : List AV} (h : SimL C l m) (h' : SimL C l' m') : SimL C (l ++ l') (m ++ m') := by
  refine ⟨by simp [h.1, h'.1], fun i a b ha hb => ?_⟩
  by_cases hi : i < l.length
  · rw [List.getElem?_append_left hi] at ha
    rw [List.getElem?_append_left (by rw [← h.1]; exact hi)] at hb
    exact h.2 i a b ha hb
  · rw [List.getElem?_append_right (by omega)] at ha
    rw [List.getElem?_append_right (by rw [← h.1]; omega), ← h.1] at hb
    exact h'.2 _ a b ha hb
theorem SimL.take {C : Cx} {l : List SV} {m : List AV} (h : SimL C l m) (n : Nat) : SimL C (l.take n) (m.take n) := by
  refine ⟨by simp [h.1], fun i a b ha hb => ?_⟩
  rw [List.getElem?_take] at ha hb
  split at ha
  · rename_i hi
    rw [if_pos hi] at hb
    exact h.2 i a b ha hb
  · cases ha
theorem SimL.drop {C : Cx} {l : List SV} {m : List AV} (h : SimL C l m) (n : Nat) : SimL C (l.drop n) (m.drop n) := by
  refine ⟨by simp [h.1], fun i a b ha hb => ?_⟩
  rw [List.getElem?_drop] at ha hb
  exact h.2 _ a b ha hb

theorem SimP.mono {Fz Fz' : Nat → Option AO} (hf : ∀ i o, Fz i = some o → Fz' i = some o) {s : SV} {v : AV} (h : SimP Fz s v) : SimP Fz' s v := by
  induction h with
  | bool b => exact .bool b
  | int k n => exact .int k n
  | str s => exact .str s
  | nilp => exact .nilp
  | nils => exact .nils
  | nilm => exact .nilm
  | nilf => exact .nilf
  | any v => exact .any v
  | lst0 h0 hv => exact .lst0 h0 hv
  | lst b off cap cs e sz ext bk u hb hs hl hn hc h1 _ ih => exact .lst b off cap cs e sz ext bk u (hb.mono hf) hs hl hn hc h1 ih
  | rptr b base ca e sz ext bk u hb hl h1 _ ih => exact .rptr b base ca e sz ext bk u (hf _ _ hb) hl h1 ih
  | fn h1 h2 _ _ ih3 ih4 => exact .fn h1 h2 ih3 ih4
  | agg h1 _ ih => exact .agg h1 ih
  | tup h1 _ ih => exact .tup h1 ih

theorem onL_eq (e : Ev) (l : List SV) : SV.onL e l = l.map (SV.on e) := by
  induction l with
  | nil => simp [SV.onL]
  | cons a l ih => simp [SV.onL, ih]
theorem SimP.on {Fz : Nat → Option AO} {s : SV} {v : AV} (h : SimP Fz s v) (e : Ev) : SimP Fz (s.on e) v := by
  induction h with
  | bool b => simp only [SV.on]; exact .bool b
  | int k n => simp only [SV.on]; exact .int k n
  | str s => simp only [SV.on]; exact .str s
  | nilp => simp only [SV.on]; exact .nilp
  | nils => simp only [SV.on]; exact .nils
  | nilm => simp only [SV.on]; exact .nilm
  | nilf => simp only [SV.on]; exact .nilf
  | any v => simp only [SV.on]; exact .any v
  | lst0 h0 hv => simp only [SV.on]; exact .lst0 h0 hv
  | lst b off cap cs e sz ext bk u hb hs hl hn hc h1 h2 _ => simp only [SV.on]; exact .lst b off cap cs e sz ext bk u hb hs hl hn hc h1 h2
  | rptr b base ca e sz ext bk u hb hl h1 h2 _ => simp only [SV.on]; exact .rptr b base ca e sz ext bk u hb hl h1 h2
  | fn h1 h2 _ _ ih3 ih4 =>
    simp only [SV.on, onL_eq]
    refine .fn (by simpa using h1) (by simpa using h2) (fun i x u hx hu => ?_) (fun i x u hx hu => ?_)
    · rw [List.getElem?_map] at hx
      obtain ⟨y, hy, rfl⟩ := Option.map_eq_some_iff.1 hx
      exact ih3 i y u hy hu
    · rw [List.getElem?_map] at hx
      obtain ⟨y, hy, rfl⟩ := Option.map_eq_some_iff.1 hx
      exact ih4 i y u hy hu
  | agg h1 _ ih =>
    simp only [SV.on, onL_eq]
    refine .agg (by simpa using h1) (fun i x u hx hu => ?_)
    rw [List.getElem?_map] at hx
    obtain ⟨y, hy, rfl⟩ := Option.map_eq_some_iff.1 hx
    exact ih i y u hy hu
  | tup h1 _ ih =>
    simp only [SV.on, onL_eq]
    refine .tup (by simpa using h1) (fun i x u hx hu => ?_)
    rw [List.getElem?_map] at hx
    obtain ⟨y, hy, rfl⟩ := Option.map_eq_some_iff.1 hx
    exact ih i y u hy hu

def Turns (C : Cx) (e : Ev) (C' : Cx) : Prop :=
  (∀ i o, C.Fz i = some o → C'.Fz i = some o) ∧
  match e with
  | .mod _ => ∀ p I, C.ρ p = some I → C'.ρ p = some I
  | .kill b => ∀ p I, p ≠ b → C.ρ p = some I → C'.ρ p = some I
  | .frz b X L enc => (∀ p I, p ≠ b → C.ρ p = some I → C'.ρ p = some I) ∧ ∀ I, C.ρ b = some I →
      (∀ v, SimV C (.own b) v → SimP C'.Fz (.lst X L enc) v) ∧ (∀ (i : Nat) off v x, L[i]? = some x → SimV C (.eptr b i off) v → SimP C'.Fz (.rptr (enc x) off) v)
theorem SimV.turns {C C' : Cx} {e : Ev} (ht : Turns C e C') {s : SV} {v : AV} (h : SimV C s v) : SimV C' (s.on e) v := by
  induction h with
  | pure h => exact .pure ((h.mono ht.1).on e)
  | @ptr b off I h =>
    simp only [SV.on]
    cases e with
    | mod c => exact .ptr (ht.2 _ _ h)
    | kill c =>
      by_cases hb : b = c
      · simp [hb]; exact .pure (.any _)
      · simp only [beq_ne hb, cond_false]
        exact .ptr (ht.2 _ _ hb h)
    | frz c X L enc =>
      by_cases hb : b = c
      · simp [hb]; exact .pure (.any _)
      · simp only [beq_ne hb, cond_false]
        exact .ptr (ht.2.1 _ _ hb h)
  | @eptr b i off I h hc =>
    simp only [SV.on]
    cases e with
    | mod c => exact .eptr (ht.2 _ _ h) hc
    | kill c =>
      by_cases hb : b = c
      · simp [hb]; exact .pure (.any _)
      · simp only [beq_ne hb, cond_false]
        exact .eptr (ht.2 _ _ hb h) hc
    | frz c X L enc =>
      by_cases hb : b = c
      · subst hb
        simp only [Nat.beq_refl, cond_true]
        split
        · rename_i x hx
          exact .pure ((ht.2.2 I h).2 i off _ x hx (.eptr h hc))
        · exact .pure (.any _)
      · simp only [beq_ne hb, cond_false]
        exact .eptr (ht.2.1 _ _ hb h) hc
  | @own0 b I h hc =>
    simp only [SV.on]
    cases e with
    | mod c => exact .own0 (ht.2 _ _ h) hc
    | kill c =>
      by_cases hb : b = c
      · simp [hb]; exact .pure (.any _)
      · simp only [beq_ne hb, cond_false]
        exact .own0 (ht.2 _ _ hb h) hc
    | frz c X L enc =>
      by_cases hb : b = c
      · subst hb
        simp only [Nat.beq_refl, cond_true]
        exact .pure ((ht.2.2 I h).1 _ (.own0 h hc))
      · simp only [beq_ne hb, cond_false]
        exact .own0 (ht.2.1 _ _ hb h) hc
  | @own b I c' h hc =>
    simp only [SV.on]
    cases e with
    | mod c => exact .own (ht.2 _ _ h) hc
    | kill c =>
      by_cases hb : b = c
      · simp [hb]; exact .pure (.any _)
      · simp only [beq_ne hb, cond_false]
        exact .own (ht.2 _ _ hb h) hc
    | frz c X L enc =>
      by_cases hb : b = c
      · subst hb
        simp only [Nat.beq_refl, cond_true]
        exact .pure ((ht.2.2 I h).1 _ (.own h hc))
      · simp only [beq_ne hb, cond_false]
        exact .own (ht.2.1 _ _ hb h) hc
  | @sl b off n c' I h =>
    simp only [SV.on]
    cases e with
    | mod c => exact .sl (ht.2 _ _ h)
    | kill c =>
      by_cases hb : b = c
      · simp [hb]; exact .pure (.any _)
      · simp only [beq_ne hb, cond_false]
        exact .sl (ht.2 _ _ hb h)
    | frz c X L enc =>
      by_cases hb : b = c
      · simp [hb]; exact .pure (.any _)
      · simp only [beq_ne hb, cond_false]
        exact .sl (ht.2.1 _ _ hb h)
  | fn h1 h2 _ _ ih3 ih4 =>
    simp only [SV.on, onL_eq]
    refine .fn (by simpa using h1) (by simpa using h2) (fun i x u hx hu => ?_) (fun i x u hx hu => ?_)
    · rw [List.getElem?_map] at hx
      obtain ⟨y, hy, rfl⟩ := Option.map_eq_some_iff.1 hx
      exact ih3 i y u hy hu
    · rw [List.getElem?_map] at hx
      obtain ⟨y, hy, rfl⟩ := Option.map_eq_some_iff.1 hx
      exact ih4 i y u hy hu
  | agg h1 _ ih =>
    simp only [SV.on, onL_eq]
    refine .agg (by simpa using h1) (fun i x u hx hu => ?_)
    rw [List.getElem?_map] at hx
    obtain ⟨y, hy, rfl⟩ := Option.map_eq_some_iff.1 hx
    exact ih i y u hy hu
  | tup h1 _ ih =>
    simp only [SV.on, onL_eq]
    refine .tup (by simpa using h1) (fun i x u hx hu => ?_)
    rw [List.getElem?_map] at hx
    obtain ⟨y, hy, rfl⟩ := Option.map_eq_some_iff.1 hx
    exact ih i y u hy hu

def onLog : List Ev → SV → SV
  | [], s => s
  | e :: l, s => onLog l (s.on e)
theorem onLog_append (l m : List Ev) (s : SV) : onLog (l ++ m) s = onLog m (onLog l s) := by
  induction l generalizing s with
  | nil => rfl
  | cons e l ih => exact ih _
structure Tr (C : Cx) (log : List Ev) (C' : Cx) : Prop where
  val : ∀ s v, SimV C s v → SimV C' (onLog log s) v
  fz : ∀ i o, C.Fz i = some o → C'.Fz i = some o
theorem Tr.refl (C : Cx) : Tr C [] C := ⟨fun _ _ h => h, fun _ _ h => h⟩
theorem Tr.trans {C C' C'' : Cx} {l m : List Ev} (h : Tr C l C') (k : Tr C' m C'') : Tr C (l ++ m) C'' :=
  ⟨fun s v hs => by rw [onLog_append]; exact k.val _ _ (h.val _ _ hs), fun i o hi => k.fz i o (h.fz i o hi)⟩
theorem Turns.tr {C C' : Cx} {e : Ev} (h : Turns C e C') : Tr C [e] C' := ⟨fun _ _ hs => hs.turns h, h.1⟩
def Cx.le (C C' : Cx) : Prop := (∀ p I, C.ρ p = some I → C'.ρ p = some I) ∧ ∀ i o, C.Fz i = some o → C'.Fz i = some o
theorem SimV.le {C C' : Cx} (hc : C.le C') {s : SV} {v : AV} (h : SimV C s v) : SimV C' s v := by
  induction h with
  | pure h => exact .pure (h.mono hc.2)
  | ptr h => exact .ptr (hc.1 _ _ h)
  | eptr h hs => exact .eptr (hc.1 _ _ h) hs
  | own0 h hs => exact .own0 (hc.1 _ _ h) hs
  | own h hs => exact .own (hc.1 _ _ h) hs
  | sl h => exact .sl (hc.1 _ _ h)
  | fn h1 h2 _ _ ih3 ih4 => exact .fn h1 h2 ih3 ih4
  | agg h1 _ ih => exact .agg h1 ih
  | tup h1 _ ih => exact .tup h1 ih
theorem Cx.le.tr {C C' : Cx} (h : C.le C') : Tr C [] C' := ⟨fun _ _ hs => hs.le h, h.2⟩
theorem Cx.le_refl (C : Cx) : C.le C := ⟨fun _ _ h => h, fun _ _ h => h⟩

def SimO (tab : Tab) (C : Cx) (I : BI) (o : SO) (a : AH) : Prop :=
  match o with
  | .cells cs e => I.cap.isSome ∧ ∃ ca sz, a.get I.β = some (.cells ca e sz false .rw) ∧ SimL C cs ca ∧ tab.siz.get e = some sz
  | .arr X L enc e => tab.siz.get e = some I.sz ∧ 0 < I.sz ∧ I.len = L.length ∧ (∀ (i : Nat) x, L[i]? = some x → (enc x).length = I.sz) ∧
      match I.cap with
      | none => L.length = 0
      | some c => ∃ ca ext bk, a.get I.β = some (.cells ca e I.sz ext bk) ∧ (bk ≠ .ro ∧ bk ≠ .cold) ∧ ca.length = L.length * I.sz ∧ ((c = .tail 0 ∧ ext = true) ∨ (c = .lit 0 ∧ L.length = 0)) ∧
          ∀ (i : Nat) x (j : Nat) v, L[i]? = some x → (enc x)[j]? = some v → ∃ u, ca[i * I.sz + j]? = some u ∧ SimP C.Fz v u
structure HS (tab : Tab) (C : Cx) (h : SH) (a : AH) : Prop where
  obj : ∀ p o, h.get p = some o → ∃ I, C.ρ p = some I ∧ SimO tab C I o a
  inj : ∀ p q o o' I J, h.get p = some o → h.get q = some o' → C.ρ p = some I → C.ρ q = some J → I.cap.isSome → J.cap.isSome → I.β = J.β → p = q
  fz : ∀ i o, C.Fz i = some o → a.get i = some o
  dj : ∀ p o I, h.get p = some o → C.ρ p = some I → I.cap.isSome → C.Fz I.β = none
  lt : ∀ p I, C.ρ p = some I → p < h.next
  wf : ∀ i o, a.get i = some o → i < a.next

def FS (C : Cx) (ts : Fr) (ta : T AV) : Prop := ∀ t s, look ts t = some s → SimV C s ((ta.get t).getD (.tup []))
end Go.Sy

