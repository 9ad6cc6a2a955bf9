/- An evaluator over abstract values, proved sound over the model's machine; no condition. Part: Seat. -/
import Derived.Test.YthgcpbkifhnlpaaGreatAmExt
set_option linter.unusedSimpArgs false
set_option linter.unusedVariables false
set_option linter.unusedSectionVars false
set_option linter.deprecated false
namespace Go.Am
open Go.RowKit

/-- The same tree, with what f says. -/
def T.reval {α : Type} : (Nat → Option α) → T α → T α
  | _, .e => .e
  | f, .n v l r => .n (match v with | none => none | some _ => f 0) (T.reval (fun k => f (2 * k + 1)) l) (T.reval (fun k => f (2 * k + 2)) r)
def T.all {α : Type} (p : α → Bool) : T α → Bool
  | .e => true
  | .n v l r => (match v with | none => true | some a => p a) && T.all p l && T.all p r

theorem T.reval_ok {α : Type} : ∀ (t : T α) (f : Nat → Option α), T.reval f t = t → ∀ k v, t.get k = some v → f k = some v := by
  intro t
  induction t with
  | e => intro f _ k v h; simp [T.get_e] at h
  | n x l r ihl ihr =>
    intro f h k v hk
    simp only [T.reval, T.n.injEq] at h
    obtain ⟨h1, h2, h3⟩ := h
    rw [T.get_n] at hk
    split at hk
    · rename_i h0
      subst h0
      subst hk
      exact h1
    · split at hk
      · have := ihl _ h2 _ _ hk
        rw [show 2 * (k / 2) + 1 = k from by omega] at this
        exact this
      · have := ihr _ h3 _ _ hk
        rw [show 2 * (k / 2 - 1) + 2 = k from by omega] at this
        exact this
theorem T.all_ok {α : Type} {p : α → Bool} : ∀ (t : T α), T.all p t = true → ∀ k v, t.get k = some v → p v = true := by
  intro t
  induction t with
  | e => intro _ k v h; simp [T.get_e] at h
  | n x l r ihl ihr =>
    intro h k v hk
    simp only [T.all, Bool.and_eq_true] at h
    obtain ⟨⟨h1, h2⟩, h3⟩ := h
    rw [T.get_n] at hk
    split at hk
    · subst hk; exact h1
    · split at hk
      · exact ihl h2 _ _ hk
      · exact ihr h3 _ _ hk

theorem TabOK.of {P : Program} {tab : Tab} (h1 : tab.und.reval P.underlying = tab.und) (h2 : tab.siz.reval (fun t => (P.info? t).map (·.size)) = tab.siz) (h3 : tab.byt.reval (fun t => (P.info? t).map (·.bytes)) = tab.byt)
    (h4 : tab.zer.reval (fun t => ((P.info? t).bind (·.zero)).map ofConst) = tab.zer) (h5 : tab.agg.reval (fun t => (P.underlying t).map aggOf) = tab.agg) (h6 : tab.held.reval (fun t => some (P.stoodInHeld t)) = tab.held)
    (h7 : tab.grd.reval (fun t => some (P.eqGuardType P.depth t)) = tab.grd) (h8 : tab.fns.reval (fun f => P.funcs[f]?) = tab.fns) (h9 : tab.fns.all (fun fn => !(fn.name == "runtime.NumGoroutine")) = true) : TabOK P tab := by
  refine ⟨T.reval_ok _ _ h1, ?_, ?_, ?_, ?_, ?_, ?_, T.reval_ok _ _ h8, ?_⟩
  · intro t n h
    have := T.reval_ok _ _ h2 t n h
    simpa [Option.map_eq_some_iff] using this
  · intro t n h
    have := T.reval_ok _ _ h3 t n h
    simpa [Option.map_eq_some_iff] using this
  · intro t z h
    have := T.reval_ok _ _ h4 t z h
    simp only [Option.map_eq_some_iff, Option.bind_eq_some_iff] at this
    obtain ⟨v, ⟨i, hi, hv⟩, rfl⟩ := this
    exact ⟨i, hi, fun E => by rw [conc_ofConst]; exact hv⟩
  · intro t b h
    have := T.reval_ok _ _ h5 t b h
    simpa [Option.map_eq_some_iff] using this
  · intro t b h
    have := T.reval_ok _ _ h6 t b h
    simpa using this
  · intro t b h
    have := T.reval_ok _ _ h7 t b h
    simpa using this
  · intro f fn h
    have := T.all_ok _ h9 f fn h
    simpa using this

/-- The functions without a body. -/
theorem ExtTab.of {P : Program} {tab : Tab} (l : List (Nat × Nat)) (hl : ∀ f tag, tab.ext.get f = some tag → (f, tag) ∈ l) (hf : ∀ x ∈ l, ∀ fn, tab.fns.get x.1 = some fn → Extern.findNext fn = none ∧ Extern.find fn = some (extFn x.2 fn)) : ExtTab P tab :=
  fun f tag fn h1 h2 => hf (f, tag) (hl f tag h1) fn h2
end Go.Am
