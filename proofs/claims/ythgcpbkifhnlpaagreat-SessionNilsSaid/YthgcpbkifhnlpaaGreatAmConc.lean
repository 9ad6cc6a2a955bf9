/- An evaluator over abstract values, proved sound over the model's machine; no condition. Part: Conc. -/
import Derived.Test.YthgcpbkifhnlpaaGreatAmCore
import Derived.WalkKit
set_option linter.unusedSimpArgs false
set_option linter.unusedVariables false
set_option linter.unusedSectionVars false
set_option linter.deprecated false
namespace Go.Am
open Go.RowKit

/-! ## Results -/
theorem R.bind_ok {α β : Type} {x : R α} {f : α → R β} {b : β} : (x >>= f) = .ok b ↔ ∃ a, x = .ok a ∧ f a = .ok b := by
  cases x with
  | ok a => exact ⟨fun h => ⟨a, rfl, h⟩, fun ⟨_, h1, h2⟩ => by cases h1; exact h2⟩
  | no w => exact ⟨fun h => (nomatch h), fun ⟨_, h1, _⟩ => (nomatch h1)⟩
theorem R.of_ok {α : Type} {s : String} {x : Option α} {a : α} : R.of s x = .ok a ↔ x = some a := by
  cases x <;> simp [R.of]
theorem R.check_ok {s : String} {b : Bool} {u : Unit} : R.check s b = .ok u ↔ b = true := by
  cases b <;> simp [R.check]

/-! ## Trees -/
theorem T.get_e {α : Type} (k : Nat) : (T.e : T α).get k = none := rfl
theorem T.get_n {α : Type} (v : Option α) (l r : T α) (k : Nat) :
    (T.n v l r).get k = if k = 0 then v else if k % 2 = 1 then l.get (k / 2) else r.get (k / 2 - 1) := by
  have h1 : (Nat.beq k 0) = decide (k = 0) := by
    by_cases h : k = 0 <;> simp [h, Nat.beq_eq]
    cases k <;> simp_all [Nat.beq]
  have h2 : (Nat.beq (Nat.mod k 2) 1) = decide (k % 2 = 1) := by
    by_cases h : k % 2 = 1
    · simp [h]; exact h
    · simp only [h, decide_false]
      exact Bool.eq_false_iff.2 fun e => h (Nat.eq_of_beq_eq_true e)
  conv => lhs; unfold T.get
  rw [h1, h2]
  simp only [cond_eq_ite, decide_eq_true_eq]
  rfl
theorem T.get_setF {α : Type} (f : Nat) : ∀ (t : T α) (k j : Nat) (x : Option α), k < f → (T.setF f t k x).get j = if j = k then x else t.get j := by
  induction f with
  | zero => intro t k j x h; omega
  | succ f ih =>
    intro t k j x h
    have h1 : (Nat.beq k 0) = decide (k = 0) := by
      by_cases h : k = 0 <;> simp [h]
      cases k <;> simp_all [Nat.beq]
    have h2 : (Nat.beq (Nat.mod k 2) 1) = decide (k % 2 = 1) := by
      by_cases h : k % 2 = 1
      · simp [h]; exact h
      · simp only [h, decide_false]
        exact Bool.eq_false_iff.2 fun e => h (Nat.eq_of_beq_eq_true e)
    have e1 : Nat.div k 2 = k / 2 := rfl
    cases t with
    | e =>
      unfold T.setF
      rw [h1, h2, e1, Nat.pred_eq_sub_one]
      simp only [cond_eq_ite, decide_eq_true_eq]
      by_cases k0 : k = 0
      · simp only [if_pos k0, T.get_n, T.get_e]
        subst k0
        split <;> simp
      · by_cases k1 : k % 2 = 1
        · simp only [if_neg k0, if_pos k1, T.get_n, T.get_e]
          rw [ih _ _ _ _ (by omega)]
          simp only [T.get_e]
          by_cases j0 : j = 0
          · simp [j0]; intro e; omega
          · by_cases j1 : j % 2 = 1
            · simp only [if_neg j0, if_pos j1]
              by_cases e : j = k
              · subst e; simp
              · rw [if_neg (by omega), if_neg e]
            · simp only [if_neg j0, if_neg j1]
              rw [if_neg (by intro e; subst e; exact j1 k1)]
        · simp only [if_neg k0, if_neg k1, T.get_n, T.get_e]
          rw [ih _ _ _ _ (by omega)]
          simp only [T.get_e]
          by_cases j0 : j = 0
          · simp [j0]; intro e; omega
          · by_cases j1 : j % 2 = 1
            · simp only [if_neg j0, if_pos j1]
              rw [if_neg (by intro e; subst e; exact k1 j1)]
            · simp only [if_neg j0, if_neg j1]
              by_cases e : j = k
              · subst e; simp
              · rw [if_neg (by omega), if_neg e]
    | n v l r =>
      unfold T.setF
      rw [h1, h2, e1, Nat.pred_eq_sub_one]
      simp only [cond_eq_ite, decide_eq_true_eq]
      by_cases k0 : k = 0
      · simp only [if_pos k0, T.get_n]
        subst k0
        split <;> simp_all
      · by_cases k1 : k % 2 = 1
        · simp only [if_neg k0, if_pos k1, T.get_n]
          rw [ih _ _ _ _ (by omega)]
          by_cases j0 : j = 0
          · simp only [if_pos j0]; rw [if_neg (by omega)]
          · by_cases j1 : j % 2 = 1
            · simp only [if_neg j0, if_pos j1]
              by_cases e : j = k
              · subst e; simp
              · rw [if_neg (by omega), if_neg e]
            · simp only [if_neg j0, if_neg j1]
              rw [if_neg (by intro e; subst e; exact j1 k1)]
        · simp only [if_neg k0, if_neg k1, T.get_n]
          rw [ih _ _ _ _ (by omega)]
          by_cases j0 : j = 0
          · simp only [if_pos j0]; rw [if_neg (by omega)]
          · by_cases j1 : j % 2 = 1
            · simp only [if_neg j0, if_pos j1]
              rw [if_neg (by intro e; subst e; exact k1 j1)]
            · simp only [if_neg j0, if_neg j1]
              by_cases e : j = k
              · subst e; simp
              · rw [if_neg (by omega), if_neg e]
theorem T.get_set {α : Type} (t : T α) (k j : Nat) (x : Option α) : (t.set k x).get j = if j = k then x else t.get j :=
  T.get_setF (k + 1) t k j x (Nat.lt_succ_self k)

/-! ## What an abstract value stands for -/
structure Env where
  blk : Nat → Nat
  cap : Nat → Nat

def Cap.val (c : Cap) (n : Nat) : Nat :=
  match c with
  | .lit m => m
  | .tail k => n - k

mutual
def conc (E : Env) : AV → Value
  | .bool b => .bool b
  | .int k n => .int k n
  | .str s => .string ⟨s.toArray⟩
  | .nilp => .pointer none
  | .ptr b off => .pointer (some ⟨E.blk b, off, none⟩)
  | .nils => .slice none 0 0
  | .sl b off len cap => .slice (some ⟨E.blk b, off, none⟩) len (cap.val (E.cap b))
  | .emp b off l n k => .slice (some ⟨E.blk b, if E.cap b - k = l then off else off + l * n, none⟩) 0 (E.cap b - k - l)
  | .nilm => .map none
  | .map b => .map (some (E.blk b))
  | .nilf => .nilFunc
  | .fn f xs ys => .func f (concL E xs).toArray (concL E ys).toArray
  | .yld l => .func (.yield (E.blk l)) #[] #[]
  | .nili => .nilIface
  | .iface t v => .iface t (conc E v)
  | .agg cs => .agg (concL E cs).toArray
  | .tup vs => .tuple (concL E vs).toArray
  | .raw v => v
def concL (E : Env) : List AV → List Value
  | [] => []
  | v :: l => conc E v :: concL E l
end

theorem concL_eq (E : Env) (l : List AV) : concL E l = l.map (conc E) := by
  induction l with
  | nil => rfl
  | cons v l ih => simp [concL, ih]
@[simp] theorem concL_nil (E : Env) : concL E [] = [] := rfl
@[simp] theorem concL_cons (E : Env) (v : AV) (l : List AV) : concL E (v :: l) = conc E v :: concL E l := rfl
@[simp] theorem concL_append (E : Env) (l m : List AV) : concL E (l ++ m) = concL E l ++ concL E m := by simp [concL_eq]
@[simp] theorem concL_length (E : Env) (l : List AV) : (concL E l).length = l.length := by simp [concL_eq]
theorem concL_take (E : Env) (l : List AV) (n : Nat) : concL E (l.take n) = (concL E l).take n := by simp [concL_eq, List.map_take]
theorem concL_drop (E : Env) (l : List AV) (n : Nat) : concL E (l.drop n) = (concL E l).drop n := by simp [concL_eq, List.map_drop]
theorem concL_get (E : Env) (l : List AV) (i : Nat) : (concL E l)[i]? = (l[i]?).map (conc E) := by simp [concL_eq]

theorem conc_ofCell (E : Env) (v : Value) : conc E (ofCell v) = v := by
  unfold ofCell
  split <;> simp [conc]
theorem concL_ofCell (E : Env) (l : List Value) : concL E (l.map ofCell) = l := by
  induction l with
  | nil => rfl
  | cons v l ih => simp [conc_ofCell, ih]
theorem conc_ofConst (E : Env) (v : Value) : conc E (ofConst v) = v := by
  unfold ofConst
  split
  · simp [conc, concL_ofCell]
  · simp [conc, concL_ofCell]
  · exact conc_ofCell E v

theorem cells_ok {E : Env} {v : AV} {l : List AV} (h : v.cells = .ok l) : (conc E v).cells = (concL E l).toArray := by
  cases v
  case raw u => cases u <;> simp only [AV.cells] at h <;> (try cases h) <;> simp [conc, Value.cells]
  all_goals simp only [AV.cells] at h <;> (try cases h) <;> simp [conc, Value.cells]
theorem oneCell_conc {E : Env} {v : AV} (h : oneCell v = true) : (conc E v).oneCell' = true := by
  cases v <;> simp_all [oneCell, conc, Value.oneCell']

/-! ## Equality -/
mutual
theorem AV.beq_eq : ∀ (a b : AV), AV.beq a b = true → a = b
  | .bool a, b, h => by cases b <;> simp_all [AV.beq]
  | .int k a, b, h => by cases b <;> simp_all [AV.beq]
  | .str a, b, h => by cases b <;> simp_all [AV.beq]
  | .nilp, b, h => by cases b <;> simp_all [AV.beq]
  | .ptr x i, b, h => by
    cases b <;> simp only [AV.beq, Bool.and_eq_true] at h <;> (try cases h)
    rename_i h1 h2
    rw [Nat.eq_of_beq_eq_true h1, Nat.eq_of_beq_eq_true h2]
  | .nils, b, h => by cases b <;> simp_all [AV.beq]
  | .sl x i n c, b, h => by
    cases b <;> simp only [AV.beq, Bool.and_eq_true] at h <;> (try cases h)
    rename_i h1 h2
    obtain ⟨⟨h3, h4⟩, h5⟩ := h1
    rw [Nat.eq_of_beq_eq_true h3, Nat.eq_of_beq_eq_true h4, Nat.eq_of_beq_eq_true h5, eq_of_beq h2]
  | .emp x i n c e, b, h => by
    cases b <;> simp only [AV.beq, Bool.and_eq_true] at h <;> (try cases h)
    rename_i h1 h2
    obtain ⟨⟨⟨h3, h4⟩, h5⟩, h6⟩ := h1
    rw [Nat.eq_of_beq_eq_true h3, Nat.eq_of_beq_eq_true h4, Nat.eq_of_beq_eq_true h5, Nat.eq_of_beq_eq_true h6, Nat.eq_of_beq_eq_true h2]
  | .nilm, b, h => by cases b <;> simp_all [AV.beq]
  | .map x, b, h => by
    cases b <;> simp only [AV.beq] at h <;> (try cases h)
    rw [Nat.eq_of_beq_eq_true h]
  | .nilf, b, h => by cases b <;> simp_all [AV.beq]
  | .fn f x y, b, h => by
    cases b <;> simp only [AV.beq, Bool.and_eq_true] at h <;> (try cases h)
    rename_i h1 h2
    rw [eq_of_beq h1.1, AV.beqL_eq _ _ h1.2, AV.beqL_eq _ _ h2]
  | .yld x, b, h => by
    cases b <;> simp only [AV.beq] at h <;> (try cases h)
    rw [Nat.eq_of_beq_eq_true h]
  | .nili, b, h => by cases b <;> simp_all [AV.beq]
  | .iface t v, b, h => by
    cases b <;> simp only [AV.beq, Bool.and_eq_true] at h <;> (try cases h)
    rename_i h1 h2
    rw [Nat.eq_of_beq_eq_true h1, AV.beq_eq _ _ h2]
  | .agg x, b, h => by
    cases b <;> simp only [AV.beq] at h <;> (try cases h)
    rw [AV.beqL_eq _ _ h]
  | .tup x, b, h => by
    cases b <;> simp only [AV.beq] at h <;> (try cases h)
    rw [AV.beqL_eq _ _ h]
  | .raw v, b, h => by cases b <;> simp [AV.beq] at h
theorem AV.beqL_eq : ∀ (a b : List AV), AV.beqL a b = true → a = b
  | [], b, h => by cases b <;> simp_all [AV.beqL]
  | x :: l, b, h => by
    cases b with
    | nil => simp [AV.beqL] at h
    | cons y m =>
      simp only [AV.beqL, Bool.and_eq_true] at h
      rw [AV.beq_eq _ _ h.1, AV.beqL_eq _ _ h.2]
end

/-! ## The program's tables -/
def aggOf : TypeDesc → Bool
  | .struct _ | .array _ _ => true
  | _ => false
structure TabOK (P : Program) (tab : Tab) : Prop where
  und : ∀ t d, tab.und.get t = some d → P.underlying t = some d
  siz : ∀ t n, tab.siz.get t = some n → ∃ i, P.info? t = some i ∧ i.size = n
  byt : ∀ t n, tab.byt.get t = some n → ∃ i, P.info? t = some i ∧ i.bytes = n
  zer : ∀ t z, tab.zer.get t = some z → ∃ i, P.info? t = some i ∧ ∀ E, i.zero = some (conc E z)
  agg : ∀ t b, tab.agg.get t = some b → ∃ d, P.underlying t = some d ∧ aggOf d = b
  held : ∀ t b, tab.held.get t = some b → P.stoodInHeld t = b
  grd : ∀ t b, tab.grd.get t = some b → P.eqGuardType P.depth t = b
  fns : ∀ f fn, tab.fns.get f = some fn → P.funcs[f]? = some fn
  nng : ∀ f fn, tab.fns.get f = some fn → (fn.name == "runtime.NumGoroutine") = false

section
variable {P : Program} {tab : Tab} (ok : TabOK P tab)
include ok
theorem und_run {t : TypeId} {d : TypeDesc} (h : und tab t = .ok d) (w : World) : (underlying t).run P w = .ok d w := by
  have := ok.und t d (R.of_ok.1 h)
  simp [underlying, this]
theorem siz_run {t : TypeId} {n : Nat} (h : siz tab t = .ok n) (w : World) : (sizeOf t).run P w = .ok n w := by
  obtain ⟨i, hi, rfl⟩ := ok.siz t n (R.of_ok.1 h)
  simp [sizeOf, typeInfo, hi]
theorem zero_run {t : TypeId} {z : AV} (h : zero tab t = .ok z) (E : Env) (w : World) : (zeroValue t).run P w = .ok (conc E z) w := by
  obtain ⟨i, hi, hz⟩ := ok.zer t z (R.of_ok.1 h)
  simp [zeroValue, typeInfo, hi, hz E]
theorem isAgg_run {t : TypeId} {b : Bool} (h : isAgg tab t = .ok b) (w : World) : (Go.isAgg t).run P w = .ok b w := by
  obtain ⟨d, hd, rfl⟩ := ok.agg t b (R.of_ok.1 h)
  simp only [Go.isAgg, underlying, Sem.run_bind, run_program, Result.andThen_ok, hd, Sem.run_pure]
  cases d <;> rfl
theorem part_run {t : TypeId} {cs : List AV} {off : Nat} {v : AV} (h : part tab t cs off = .ok v) (E : Env) (w : World) :
    (Go.part t (concL E cs).toArray off).run P w = .ok (conc E v) w := by
  unfold part at h
  obtain ⟨b, hb, h⟩ := R.bind_ok.1 h
  unfold Go.part
  rw [Sem.run_bind, isAgg_run ok hb, Result.andThen_ok]
  cases b with
  | true =>
    simp only [if_true] at h ⊢
    obtain ⟨n, hn, h⟩ := R.bind_ok.1 h
    cases h
    rw [Sem.run_bind, siz_run ok hn]
    simp [conc, concL_take, concL_drop, List.extract_eq_take_drop]
  | false =>
    simp only [Bool.false_eq_true, if_false] at h ⊢
    have h := R.of_ok.1 h
    simp [concL_get, h]
end
end Go.Am
