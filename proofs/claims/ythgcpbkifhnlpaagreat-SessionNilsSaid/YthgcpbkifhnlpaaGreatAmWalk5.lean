/- An evaluator over abstract values, proved sound over the model's machine; no condition. Part: Walk5. -/
import Derived.Test.YthgcpbkifhnlpaaGreatAmWalk4
import Derived.Laws.Sem
set_option linter.unusedSimpArgs false
set_option linter.unusedVariables false
set_option linter.unusedSectionVars false
set_option linter.deprecated false
namespace Go.Am
open Go.RowKit

section
variable {P : Program} {tab : Tab} (ok : TabOK P tab) {sub : FuncId → List AV → AH → R (List (AV × AH))} (hsub : SubOK P tab sub) (hext : ExtOK P tab)
variable {D : Nat → Prop} {E : Env} {K : Nat → Prop} {base : List Frame} {frC : Frame} {csC : List Frame} {w : World}
variable {fr : AFrame} {cs : List AFrame} {h : AH}

theorem drop_goexit (E : Env) (l : List APE) : (l.map (concP E)).dropWhile (fun e => !e.goexit) = [] := by
  induction l with
  | nil => rfl
  | cons a l ih => simp [concP]; exact ih

theorem doReturn_one {v : AV} {m' : AM} (hd : doReturn fr cs v h = .ok (.next m')) (hwf : ∀ f ∈ cs, f.WF) (w : World) :
    m'.h = h ∧ bot m'.fr m'.cs = bot fr cs ∧ (m'.fr.WF ∧ ∀ f ∈ m'.cs, f.WF) ∧
    ∀ E base, (Go.doReturn P true (concF E fr) (cs.map (concF E) ++ base) none (conc E v) w).bare =
      .go { frame := concF E m'.fr, callers := m'.cs.map (concF E) ++ base, status := .running, dying := none } w := by
  unfold doReturn at hd
  split at hd
  · split at hd <;> cases hd
  · rename_i c rest
    have hc := hwf c List.mem_cons_self
    have hrest : ∀ f ∈ rest, f.WF := fun f hf => hwf f (List.mem_cons_of_mem _ hf)
    split at hd
    · rename_i hk
      obtain ⟨fr1, hf, hd1⟩ := R.bind_ok.1 hd
      cases hd1
      have hfc := finish_conc hf
      refine ⟨rfl, bot_fn (hfc ⟨fun _ => 0, fun _ => 0⟩).2.2 rest, ⟨(hfc ⟨fun _ => 0, fun _ => 0⟩).2.1 hc, hrest⟩, fun E base => ?_⟩
      have hk' : (concF E fr).kind = .normal := hk
      simp [Go.doReturn, hk', (hfc E).1]
    · rename_i hk
      split at hd
      · rename_i r hm
        cases hd
        refine ⟨rfl, bot_fn (by rfl) rest, ⟨hc, hrest⟩, fun E base => ?_⟩
        have hk' : (concF E fr).kind = .deferred := hk
        simp only [List.map_cons, List.cons_append, Go.doReturn, hk']
        simp only [concF, hm, concM, List.map_cons, concP]
        simp [drop_goexit]
      · rename_i hm
        cases hd
        refine ⟨rfl, rfl, ⟨hc, hrest⟩, fun E base => ?_⟩
        have hk' : (concF E fr).kind = .deferred := hk
        simp only [List.map_cons, List.cons_append, Go.doReturn, hk']
        split
        · rename_i heq
          exfalso
          simp only [concF, concM] at heq
          split at heq
          · cases heq
          · cases heq
          · rename_i chain hch
            cases chain with
            | nil => simp at heq
            | cons p older =>
              obtain ⟨v', rc⟩ := p
              simp [concP] at heq
              obtain ⟨⟨_, h2, _⟩, _⟩ := heq
              subst h2
              exact hm _ _ hch
        · rfl
    · cases hd

/-! ## The results -/
include ok in
theorem results_run {ts : T AV} {nt : Nat} (hwf : ∀ t, nt ≤ t → ts.get t = none) (H : HOK E h K w) : ∀ (l : List ResultVar) (vs : List AV), results tab h ts l = .ok vs →
    (l.mapM (m := Sem) fun
      | .tmp t => pure ((concTmps E ts nt).getD t undef)
      | .cell a t => do Go.loadVar t (← asAddr ((concTmps E ts nt).getD a undef))).run P w = .ok (concL E vs) w := by
  intro l
  induction l with
  | nil => intro vs h; simp only [results] at h; cases h; simp
  | cons x l ih =>
    intro vs hr
    rw [List.mapM_cons]
    cases x with
    | tmp t =>
      simp only [results] at hr
      obtain ⟨vs1, h1, h2⟩ := R.bind_ok.1 hr
      cases h2
      simp only [Sem.run_bind, Sem.run_pure, Result.andThen_ok, ih _ h1, tmps_getD E ts nt t hwf, concL_cons]
    | cell a t =>
      simp only [results] at hr
      split at hr
      · rename_i b off ha
        obtain ⟨v, h1, h2⟩ := R.bind_ok.1 hr
        obtain ⟨vs1, h3, h4⟩ := R.bind_ok.1 h2
        cases h4
        have hv := loadVar_run ok H h1
        have hva : asAddr (conc E (.ptr b off)) = pure ⟨E.blk b, off, none⟩ := rfl
        simp only [Sem.run_bind, Sem.run_pure, Result.andThen_ok, ih _ h3, tmps_getD E ts nt a hwf, concL_cons, ha, Option.getD_some, hva, hv]
      · cases hr

include ok in
theorem results_conc {fn : Func} {ts : T AV} {nt : Nat} (hwf : ∀ t, nt ≤ t → ts.get t = none) (H : HOK E h K w) {vs : List AV} (hr : results tab h ts fn.results.toList = .ok vs) :
    (Go.results fn (concTmps E ts nt)).run P w = .ok (conc E (result vs)) w := by
  have h1 := results_run ok hwf H _ _ hr
  unfold Go.results
  rw [Array.mapM_eq_mapM_toList, map_eq_pure_bind, Sem.run_bind, Sem.run_bind]
  erw [h1]
  simp only [Result.andThen_ok, Sem.run_pure]
  cases vs with
  | nil => simp [result, conc]
  | cons v vs =>
    cases vs with
    | nil => simp [result]
    | cons u vs => simp [result, conc]
end
end Go.Am
