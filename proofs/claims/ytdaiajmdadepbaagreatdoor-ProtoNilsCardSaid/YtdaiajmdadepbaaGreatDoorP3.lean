/- An evaluator over symbolic values, proved sound over the model's machine, and its use at this seat; no condition. Part 3. -/
import Derived.Test.YtdaiajmdadepbaaGreatDoorP2
set_option linter.unusedSimpArgs false
set_option linter.unusedVariables false
set_option linter.unusedSectionVars false
set_option linter.deprecated false
namespace Go.Sy
open Go.Am Go.RowKit
universe u v

section
variable {tab : Tab} {view : TypeId → Option View} {C : Cx} {s : St} {ta : T AV} {a : AH}
/-- What an operation that makes a block gives, wherever. -/
def Made (tab : Tab) (C : Cx) (s : St) (a : AH) (K : SV → St → Prop) (r : AH → R (AV × AH)) : Prop :=
  ∃ sv v so ao I, K sv (s.new so) ∧ (∀ h' : AH, h'.next = a.next → r h' = .ok (v, h'.new ao)) ∧ I.β = a.next ∧ I.cap.isSome ∧ (∀ C', C.le C' → C'.ρ s.h.next = some I → SimV C' sv v) ∧ ∀ (C' : Cx) (a' : AH), C.le C' → a'.get a.next = some ao → SimO tab C' I so a'
theorem Made.cells {cs : List SV} {ca : List AV} (hc : SimL C cs ca) {e n : Nat} (hn : tab.siz.get e = some n) {K : SV → St → Prop} {sv : SV} {f : Nat → AV} (hv : ∀ C' : Cx, ∀ I : BI, C'.ρ s.h.next = some I → SimV C' sv (f I.β)) (hk : K sv (s.new (.cells cs e))) {r : AH → R (AV × AH)}
    (hr : ∀ h' : AH, h'.next = a.next → r h' = .ok (f h'.next, h'.new (.cells ca e n false .rw))) : Made tab C s a K r := by
  refine ⟨sv, f a.next, .cells cs e, .cells ca e n false .rw, ⟨a.next, 0, n, some (.lit 0)⟩, hk, fun h' hh => by rw [hr h' hh, hh], rfl, rfl, fun C' _ hI => hv C' _ hI, fun C' a' hle hg => ⟨rfl, ca, n, hg, hc.le hle, hn⟩⟩
theorem sop_made (hF : FS C s.ts ta) {o : Oper} (hc : cls tab o = .alloc) {K : SV → St → Prop} (h : sop tab view s o K) : Made tab C s a K fun h' => pureOp tab ta h' o := by
  obtain ⟨dst, op, type, pos, after, guard⟩ := o
  unfold sop at h
  unfold pureOp
  have same1 : ∀ {x : Operand} {K' : SV → Prop}, so (sev s.ts x) K' → ∃ sv v, ev ta x = .ok v ∧ SimV C sv v ∧ K' sv := by
    intro x K' h
    obtain ⟨sv, h1, h2⟩ := so_ok h
    obtain ⟨v, h3, h4⟩ := sev_ok hF h1
    exact ⟨sv, v, h3, h4, h2⟩
  cases op <;> simp only at h ⊢ <;> simp only [cls] at hc
  case alloc e =>
    obtain ⟨n, hn, h⟩ := so_ok h
    obtain ⟨cs, h1, h2⟩ := so_ok h
    obtain ⟨zv, zc, g1, g2, g3⟩ := zeroS_ok (C := C) h1
    exact Made.cells (f := fun b => .ptr b 0) g3 hn (fun C' I hI => .ptr hI) h2 (fun h' _ => by rw [rb g1, rb g2, rb (newRow_ok hn _ _ _)])
  case box e x =>
    obtain ⟨n, hn, h⟩ := so_ok h
    obtain ⟨sv, v, h3, h4, h2⟩ := same1 h
    obtain ⟨hk, h2⟩ := ck_ok h2
    obtain ⟨l, g1, g2⟩ := cells_ok' h4 hk
    exact Made.cells (f := fun b => .ptr b 0) g2 hn (fun C' I hI => .ptr hI) h2 (fun h' _ => by rw [evR h3, rb g1, rb (newRow_ok hn _ _ _)])
  case buildSlice t len ps =>
    obtain ⟨l, h1, h2⟩ := so_ok h
    obtain ⟨vs, g1, g2, g3⟩ := partsS_ok hF h1
    have : (fun h' => (do let l ← evParts ta ps.toList; Am.buildSlice tab h' t len l)) = fun h' => Am.buildSlice tab h' t len vs := by
      funext h'; rw [rb g1]
    rw [this]
    clear this
    clear h h1
    have h := h2
    clear h2
    unfold buildSliceS at h
    split at h
    · rename_i e hg
      split at h
      · rename_i n z hn hz
        obtain ⟨hck, h1⟩ := ck_ok h
        clear h
        simp only [Bool.and_eq_true] at hck
        obtain ⟨zv, zc, q1, q2, q3⟩ := zeroS_ok (C := C) hz
        have hzl : (Nat.beq zc.length n) = true := by rw [← q3.1]; exact hck.2
        have hb : ∀ (h' : AH) (ca : List AV), fill (rep len zc) (vs.map fun (i, v) => (i * n, n, v)) = .ok ca → Am.buildSlice tab h' t len vs = .ok (.sl h'.next 0 len (.lit len), h'.new (.cells ca e n false .rw)) := by
          intro h' ca hca
          unfold Am.buildSlice
          rw [rb (show und tab t = _ from ro hg)]
          simp only
          rw [rb (show siz tab e = _ from ro hn), rb (rc hck.1), rb q1, rb q2, rb (rc hzl), rb hca, rb (newRow_ok hn _ _ _)]
        by_cases hl0 : len = 0
        · subst hl0
          simp only [Nat.beq_refl, cond_true] at h1
          obtain ⟨hck2, h2⟩ := ck_ok h1
          clear h1
          simp only [Bool.and_eq_true, List.isEmpty_iff, Bool.not_eq_true'] at hck2
          obtain ⟨rfl, hn0⟩ := hck2
          have hn0 : n ≠ 0 := fun e => by subst e; simp at hn0
          cases vs with
          | cons => simp at g2
          | nil =>
            split at h2
            · rename_i V hV
              refine ⟨_, .sl a.next 0 0 (.lit 0), _, .cells [] e n false .rw, ⟨a.next, 0, n, some (.lit 0)⟩, h2, fun h' hh => (hb h' [] rfl).trans (by rw [hh]), rfl, rfl, fun C' _ hI => .own hI rfl, fun C' a' hle hg => ⟨hn, by simp only; omega, rfl, fun i x hx => by simp at hx, [], false, .rw, hg, by simp, by simp, .inr ⟨rfl, rfl⟩, fun i x j v hx => by simp at hx⟩⟩
            · exact h2.elim
        · rw [beq_ne hl0] at h1
          simp only [cond_false] at h1
          obtain ⟨cs, h2, hk⟩ := so_ok h1
          obtain ⟨ca, h3, h4⟩ := fillS_ok (qs := vs.map fun x => (x.1 * n, n, x.2)) (repS_ok q3 len) (by
            simp only [List.map_map]
            have := congrArg (List.map (fun i => (i * n, n))) g2
            simpa [List.map_map, Function.comp_def] using this) (by simpa [List.map_map, Function.comp_def] using g3) h2
          exact Made.cells (f := fun b => .sl b 0 len (.lit len)) h4 hn (fun C' I hI => .sl hI) hk (fun h' _ => hb h' ca h3)
      · exact h.elim
    · exact h.elim
  case call c =>
    cases hcc : c.callee with
    | builtin b => rw [hcc] at hc; cases b <;> cases hc
    | value f => rw [hcc] at hc; cases hc
    | invoke r m => rw [hcc] at hc; cases hc
  case convert src dst x => exact (clsConv3 hc).elim
  all_goals first | exact h.elim | (cases hc; done)
end
end Go.Sy

namespace Go.Sy
open Go.Am Go.RowKit
universe u v

/-! Parts of what is there. -/
theorem hideS_get : ∀ (l : List (Nat × Nat)) (h : SH) (p : Nat), (hideS h l).get p = if ∃ x ∈ l, x.2 = p then none else h.get p := by
  intro l
  induction l with
  | nil => intro h p; simp [hideS]
  | cons x l ih =>
    intro h p
    obtain ⟨i, b⟩ := x
    simp only [hideS, ih, SH.get_set]
    by_cases h1 : ∃ x ∈ l, x.2 = p
    · rw [if_pos h1, if_pos]
      obtain ⟨x, hx, e⟩ := h1
      exact ⟨x, List.mem_cons_of_mem _ hx, e⟩
    · rw [if_neg h1]
      by_cases h2 : p = b
      · rw [if_pos h2, if_pos ⟨(i, b), List.mem_cons_self, h2.symm⟩]
      · rw [if_neg h2, if_neg]
        rintro ⟨x, hx, e⟩
        rcases List.mem_cons.1 hx with rfl | hx
        · exact h2 e.symm
        · exact h1 ⟨x, hx, e⟩
theorem hideS_next : ∀ (l : List (Nat × Nat)) (h : SH), (hideS h l).next = h.next := by
  intro l
  induction l with
  | nil => intro h; rfl
  | cons x l ih => intro h; obtain ⟨i, b⟩ := x; simp only [hideS, ih, SH.next_set]
theorem bareS_get (h0 : SH) (log : List Ev) : ∀ (l : List (Nat × Nat)) (h : SH) (p : Nat), (bareS h h0 log l).get p = if ∃ x ∈ l, x.2 = p then logO (h0.get p) log else h.get p := by
  intro l
  induction l with
  | nil => intro h p; simp [bareS]
  | cons x l ih =>
    intro h p
    obtain ⟨i, b⟩ := x
    simp only [bareS, ih, SH.get_set]
    by_cases h1 : ∃ x ∈ l, x.2 = p
    · rw [if_pos h1, if_pos]
      obtain ⟨x, hx, e⟩ := h1
      exact ⟨x, List.mem_cons_of_mem _ hx, e⟩
    · rw [if_neg h1]
      by_cases h2 : p = b
      · rw [if_pos h2, if_pos ⟨(i, b), List.mem_cons_self, h2.symm⟩, h2]
      · rw [if_neg h2, if_neg]
        rintro ⟨x, hx, e⟩
        rcases List.mem_cons.1 hx with rfl | hx
        · exact h2 e.symm
        · exact h1 ⟨x, hx, e⟩
theorem bareS_next (h0 : SH) (log : List Ev) : ∀ (l : List (Nat × Nat)) (h : SH), (bareS h h0 log l).next = h.next := by
  intro l
  induction l with
  | nil => intro h; rfl
  | cons x l ih => intro h; obtain ⟨i, b⟩ := x; simp only [bareS, ih, SH.next_set]
theorem onlyS_get (h : SH) (n : Nat) : ∀ (l : List Nat) (p : Nat), (SH.mk n (onlyS h l)).get p = if p ∈ l then h.get p else none := by
  intro l
  induction l with
  | nil => intro p; simp [onlyS, SH.get, look]
  | cons b l ih =>
    intro p
    have := ih p
    simp only [SH.get, onlyS, look_cons] at this ⊢
    by_cases e : p = b
    · subst e
      simp only [if_true, List.mem_cons, true_or]
      cases hg : look h.os p with
      | none => rfl
      | some o => cases o <;> rfl
    · simp only [if_neg e, List.mem_cons, e, false_or]
      exact this
open Classical in
theorem cutA {a : AH} (hwf : ∀ i o, a.get i = some o → i < a.next) (P : Nat → Prop) : ∃ a0 : AH, a0.next = a.next ∧ ∀ i, a0.get i = if P i then a.get i else none := by
  refine ⟨hideAll a (((List.range a.next).filter fun i => decide (¬ P i)).map fun i => (0, i)), hideAll_next _ _, fun i => ?_⟩
  rw [hideAll_get]
  by_cases hP : P i
  · rw [if_pos hP, if_neg]
    rintro ⟨x, hx, e⟩
    obtain ⟨j, hj, rfl⟩ := List.mem_map.1 hx
    simp only [List.mem_filter, decide_eq_true_eq] at hj
    simp only at e
    exact hj.2 (e ▸ hP)
  · rw [if_neg hP]
    split
    · rfl
    · rename_i hn
      cases hg : a.get i with
      | none => rfl
      | some o => exact absurd ⟨(0, i), List.mem_map.2 ⟨i, by simp only [List.mem_filter, List.mem_range, decide_eq_true_eq]; exact ⟨hwf i o hg, hP⟩, rfl⟩, rfl⟩ hn

section
variable {tab : Tab} {C C' : Cx} {h h0 : SH} {a a0 : AH}
theorem HS.part (H : HS tab C h a) (hn : h0.next = h.next) (hh : ∀ p o, h0.get p = some o → h.get p = some o) (hp : Part a0 a) (hn0 : a0.next = a.next) (hf : ∀ i o, C.Fz i = some o → a0.get i = some o)
    (hb : ∀ p o I, h0.get p = some o → C.ρ p = some I → I.cap.isSome → a0.get I.β = a.get I.β) : HS tab C h0 a0 := by
  refine ⟨fun p o hp => ?_, fun p q o o' I J hp hq => H.inj p q o o' I J (hh p o hp) (hh q o' hq), hf, fun p o I hp => H.dj p o I (hh p o hp), fun p I hI => by rw [hn]; exact H.lt p I hI, fun i o hi => by rw [hn0]; exact H.wf i o (hp i o hi)⟩
  obtain ⟨I, hI, ho⟩ := H.obj p o (hh p o hp)
  refine ⟨I, hI, ?_⟩
  by_cases hc : I.cap.isSome
  · exact ho.congr (hb p o I hp hI hc)
  · cases o with
    | cells cs t => exact absurd ho.1 hc
    | arr X L enc t =>
      obtain ⟨g1, g2, g3, g4, g5⟩ := ho
      refine ⟨g1, g2, g3, g4, ?_⟩
      cases hcap : I.cap with
      | none => rw [hcap] at g5; exact g5
      | some c => rw [hcap] at hc; simp at hc
end

theorem beqL_of : ∀ {l : List AV}, (∀ (i : Nat) v, l[i]? = some v → AV.beq v v = true) → AV.beqL l l = true := by
  intro l
  induction l with
  | nil => intro _; rfl
  | cons v l ih => intro h; simp only [AV.beqL, Bool.and_eq_true]; exact ⟨h 0 v rfl, ih fun i w hw => h (i + 1) w (by simpa using hw)⟩
theorem fullL_get : ∀ {l : List SV}, SV.fullL l = true → ∀ (i : Nat) (s : SV), l[i]? = some s → s.full = true := by
  intro l
  induction l with
  | nil => intro _ i s h; simp at h
  | cons v l ih =>
    intro h i s hs
    simp only [SV.fullL, Bool.and_eq_true] at h
    cases i with
    | zero => simp at hs; rw [← hs]; exact h.1
    | succ i => exact ih h.2 i s (by simpa using hs)
theorem beqL_sim {l : List SV} {m : List AV} (hl : l.length = m.length) (hf : SV.fullL l = true) (h : ∀ (i : Nat) s v, l[i]? = some s → m[i]? = some v → s.full = true → AV.beq v v = true) : AV.beqL m m = true := by
  refine beqL_of fun i v hv => ?_
  have hi := (List.getElem?_eq_some_iff.1 hv).1
  have hs : l[i]? = some l[i] := List.getElem?_eq_getElem (by omega)
  exact h i _ v hs hv (fullL_get hf i _ hs)
theorem full_beqP {Fz : Nat → Option AO} {s : SV} {v : AV} (h : SimP Fz s v) (hf : s.full = true) : AV.beq v v = true := by
  induction h with
  | any v => cases hf
  | lst0 h0 hv => rcases hv with rfl | ⟨b, off, l, n, k, rfl⟩ | ⟨a, c, rfl⟩ <;> simp [AV.beq]
  | fn h1 h2 _ _ ih3 ih4 =>
    simp only [SV.full, Bool.and_eq_true] at hf
    simp only [AV.beq, Bool.and_eq_true]
    exact ⟨⟨by simp, beqL_sim h1 hf.1 ih3⟩, beqL_sim h2 hf.2 ih4⟩
  | agg h1 _ ih => simp only [SV.full] at hf; simp only [AV.beq]; exact beqL_sim h1 hf ih
  | tup h1 _ ih => simp only [SV.full] at hf; simp only [AV.beq]; exact beqL_sim h1 hf ih
  | _ => simp [AV.beq]
theorem full_beq {C : Cx} {s : SV} {v : AV} (h : SimV C s v) (hf : s.full = true) : AV.beq v v = true := by
  induction h with
  | pure h => exact full_beqP h hf
  | fn h1 h2 _ _ ih3 ih4 =>
    simp only [SV.full, Bool.and_eq_true] at hf
    simp only [AV.beq, Bool.and_eq_true]
    exact ⟨⟨by simp, beqL_sim h1 hf.1 ih3⟩, beqL_sim h2 hf.2 ih4⟩
  | agg h1 _ ih => simp only [SV.full] at hf; simp only [AV.beq]; exact beqL_sim h1 hf ih
  | tup h1 _ ih => simp only [SV.full] at hf; simp only [AV.beq]; exact beqL_sim h1 hf ih
  | _ => simp [AV.beq]

/-- Blocks that may come later, one by one. -/
def AlR (C : Cx) (h : SH) : List (Nat × Nat) → List (Nat × Nat) → Prop
  | [], [] => True
  | (i, p) :: l, (j, β) :: m => i = j ∧ (∃ o I, h.get p = some o ∧ C.ρ p = some I ∧ I.cap.isSome ∧ I.β = β) ∧ AlR C h l m
  | _, _ => False
theorem AlR.filter {C : Cx} {h : SH} (f : Nat → Bool) : ∀ {l m : List (Nat × Nat)}, AlR C h l m → AlR C h (l.filter fun x => f x.1) (m.filter fun x => f x.1) := by
  intro l
  induction l with
  | nil => intro m hm; cases m with
    | nil => exact hm
    | cons => exact hm.elim
  | cons x l ih =>
    intro m hm
    obtain ⟨i, p⟩ := x
    cases m with
    | nil => exact hm.elim
    | cons y m =>
      obtain ⟨j, β⟩ := y
      obtain ⟨rfl, h1, h2⟩ := hm
      simp only [List.filter_cons]
      cases f i
      · simpa using ih h2
      · simpa using ⟨rfl, h1, ih h2⟩
theorem AlR.mono {C C' : Cx} {h h' : SH} : ∀ {l m : List (Nat × Nat)}, AlR C h l m → (∀ x ∈ l, ∀ o I, h.get x.2 = some o → C.ρ x.2 = some I → I.cap.isSome → ∃ o', h'.get x.2 = some o' ∧ C'.ρ x.2 = some I) → AlR C' h' l m := by
  intro l
  induction l with
  | nil => intro m hm _; cases m with
    | nil => exact hm
    | cons => exact hm.elim
  | cons x l ih =>
    intro m hm hk
    obtain ⟨i, p⟩ := x
    cases m with
    | nil => exact hm.elim
    | cons y m =>
      obtain ⟨j, β⟩ := y
      obtain ⟨rfl, ⟨o, I, g1, g2, g3, g4⟩, h2⟩ := hm
      obtain ⟨o', k1, k2⟩ := hk (i, p) List.mem_cons_self o I g1 g2 g3
      exact ⟨rfl, ⟨o', I, k1, k2, g3, g4⟩, ih h2 (fun x hx => hk x (List.mem_cons_of_mem _ hx))⟩
theorem AlR.left {C : Cx} {h : SH} : ∀ {l m : List (Nat × Nat)}, AlR C h l m → ∀ x ∈ l, ∃ o I, h.get x.2 = some o ∧ C.ρ x.2 = some I ∧ I.cap.isSome ∧ ∃ y ∈ m, y.2 = I.β := by
  intro l
  induction l with
  | nil => intro m _ x hx; cases hx
  | cons x l ih =>
    intro m hm y hy
    obtain ⟨i, p⟩ := x
    cases m with
    | nil => exact hm.elim
    | cons z m =>
      obtain ⟨j, β⟩ := z
      obtain ⟨rfl, ⟨o, I, g1, g2, g3, g4⟩, h2⟩ := hm
      rcases List.mem_cons.1 hy with rfl | hy
      · exact ⟨o, I, g1, g2, g3, (i, β), List.mem_cons_self, g4.symm⟩
      · obtain ⟨o, I, q1, q2, q3, w, hw, q4⟩ := ih h2 y hy
        exact ⟨o, I, q1, q2, q3, w, List.mem_cons_of_mem _ hw, q4⟩
theorem AlR.right {C : Cx} {h : SH} : ∀ {l m : List (Nat × Nat)}, AlR C h l m → ∀ y ∈ m, ∃ x ∈ l, ∃ o I, h.get x.2 = some o ∧ C.ρ x.2 = some I ∧ I.cap.isSome ∧ I.β = y.2 := by
  intro l
  induction l with
  | nil => intro m hm y hy; cases m with
    | nil => cases hy
    | cons => exact hm.elim
  | cons x l ih =>
    intro m hm y hy
    obtain ⟨i, p⟩ := x
    cases m with
    | nil => exact hm.elim
    | cons z m =>
      obtain ⟨j, β⟩ := z
      obtain ⟨rfl, ⟨o, I, g1, g2, g3, g4⟩, h2⟩ := hm
      rcases List.mem_cons.1 hy with rfl | hy
      · exact ⟨(i, p), List.mem_cons_self, o, I, g1, g2, g3, g4⟩
      · obtain ⟨w, hw, q⟩ := ih h2 y hy
        exact ⟨w, List.mem_cons_of_mem _ hw, q⟩

/-- A read that may come later. -/
def Stb (tab : Tab) (ops : Array Oper) (C : Cx) (h : SH) (a : AH) (x : Nat × T AV × AV) (rs : List Nat) : Prop :=
  ∃ o a0 h1, ops[x.1]? = some o ∧ (cls tab o = .pure ∨ cls tab o = .read) ∧ lkd o.op = true ∧ AV.beq x.2.2 x.2.2 = true ∧ pureOp tab x.2.1 a0 o = .ok (x.2.2, h1) ∧
    ∀ β ob, a0.get β = some ob → C.Fz β = some ob ∨ (a.get β = some ob ∧ ∃ p ∈ rs, ∃ o' I, h.get p = some o' ∧ C.ρ p = some I ∧ I.cap.isSome ∧ I.β = β)
theorem Stb.mono {tab : Tab} {ops : Array Oper} {C C' : Cx} {h h' : SH} {a a' : AH} {x : Nat × T AV × AV} {rs : List Nat} (hx : Stb tab ops C h a x rs) (hf : ∀ i o, C.Fz i = some o → C'.Fz i = some o)
    (hk : ∀ p ∈ rs, ∀ o I, h.get p = some o → C.ρ p = some I → I.cap.isSome → a'.get I.β = a.get I.β ∧ ∃ o', h'.get p = some o' ∧ C'.ρ p = some I) : Stb tab ops C' h' a' x rs := by
  obtain ⟨o, a0, h1, g1, g2, g3, gb, g4, g5⟩ := hx
  refine ⟨o, a0, h1, g1, g2, g3, gb, g4, fun β ob hb => ?_⟩
  rcases g5 β ob hb with q | ⟨q, p, hp, o', I, q1, q2, q3, rfl⟩
  · exact .inl (hf _ _ q)
  · obtain ⟨k1, o2, k2, k3⟩ := hk p hp o' I q1 q2 q3
    exact .inr ⟨by rw [k1]; exact q, p, hp, o2, I, k2, k3, q3, rfl⟩

structure SimD (tab : Tab) (ops : Array Oper) (C : Cx) (d : SD) (e : DS) : Prop where
  F : FS C d.s.ts e.ts
  H : HS tab C d.s.h e.h
  anc : d.anc = e.anc
  al : AlR C d.s.h d.allocs e.allocs
  rd : ∀ x ∈ e.reads, ∃ rs, (x.1, rs) ∈ d.reads ∧ Stb tab ops C d.s.h e.h x rs
structure Prog (C : Cx) (d : SD) (e : DS) (new : List Ev) (C' : Cx) (d' : SD) (e' : DS) : Prop where
  log : d'.s.log = d.s.log ++ new
  tr : Tr C new C'
  grow : Grow e.h e'.h
  keep : Keep C d.s.h e.h new C' d'.s.h e'.h
end Go.Sy

namespace Go.Sy
open Go.Am Go.RowKit
universe u v

section
variable {tab : Tab} {cfg : Cfg} {ops : Array Oper} {nt : Nat}
theorem drawPut_eq (ts : T AV) (o : Oper) (v : AV) : drawPut nt ts o v = putT nt ts o.dst v := by
  unfold drawPut putT
  cases o.dst <;> rfl
theorem Prog.refl {C C' : Cx} {d d' : SD} {e e' : DS} (hl : d'.s.log = d.s.log) (hh : d'.s.h = d.s.h) (he : e'.h = e.h) (hc : C' = C) : Prog C d e [] C' d' e' := by
  subst hc
  exact ⟨by simp [hl], Tr.refl _, by rw [he]; exact Grow.refl _, by rw [hh, he]; exact Keep.same _ _ _ _⟩

open Classical in
theorem float_ok (htab : cfg.tab = tab) {C : Cx} {d : SD} {e : DS} {i : Nat} {o : Oper} {K : SD → Prop} (h : floatS cfg ops nt i o d K) (S : SimD tab ops C d e) (hi : ops[i]? = some o) :
    ∃ r d' C', drawFloat tab ops nt i o e = .ok r ∧ K d' ∧ SimD tab ops C' d' (r.getD e) ∧ Prog C d e [] C' d' (r.getD e) := by
  obtain ⟨s, anc, reads, allocs⟩ := d
  obtain ⟨hF, H, hanc, hal, hrd⟩ := S
  simp only at hF H hanc hal hrd
  simp only [floatS] at h
  rw [htab] at h
  obtain ⟨hok, h⟩ := ck_ok h
  obtain ⟨w, s1, h1, hw, hF1, eh, el⟩ := guardS_ok h hF
  clear h
  subst hanc
  unfold drawFloat
  rw [rb (rc hok)]
  simp only
  rw [rb hw]
  cases w with
  | false =>
    simp only [Bool.not_false, cond_true] at h1
    have h2 := forceT_ok (forceL_ok h1)
    obtain ⟨s2, k1, k2, k3, k4⟩ := putS_ok (v := .tup []) h2 hF1 (.pure (.tup rfl (fun i c v hc => by simp at hc)))
    refine ⟨_, _, C, rfl, k1, ⟨?_, ?_, rfl, ?_, ?_⟩, Prog.refl ?_ ?_ rfl rfl⟩
    · simp only [Option.getD_some]; rw [drawPut_eq]; exact k2
    · simp only [Option.getD_some]; rw [k3, eh]; exact H
    · simp only [Option.getD_some]; rw [k3, eh]; exact hal
    · simp only [Option.getD_some]; rw [k3, eh]; exact hrd
    · simp only; rw [k4, el]
    · simp only; rw [k3, eh]
  | true =>
    simp only [Bool.not_true, cond_false] at h1
    simp only [Bool.not_true, Bool.false_eq_true, if_false]
    have Hs : HS tab C s1.h e.h := by rw [eh]; exact H
    have look : ∀ (hc : cls tab o = .pure ∨ cls tab o = .read), (forceL (ancOf e.anc o) fun an => forceT (e.anc.set i (some an)) fun anc => match s1 with
      | ⟨ts, h, log⟩ => forceL (readsOf ts o) fun rs => ck (rs.all fun b => allocs.all fun x => !(Nat.beq x.2 b)) (sop tab cfg.view ⟨ts, ⟨h.next, onlyS h rs⟩, []⟩ o fun v s' => ck (s'.log.isEmpty && v.full) (putS nt ⟨ts, h, log⟩ o.dst v fun s' => K ⟨s', anc, (i, rs) :: reads, allocs⟩))) →
        ∃ d' v, K d' ∧ (∀ v' hx', pureOp tab e.ts { t := .e, next := 0 } o = .ok (v', hx') → v' = v ∧ hx'.next = 0) ∧ pureOp tab e.ts (hideAll e.h e.allocs) o = .ok (v, hideAll e.h e.allocs) ∧
          ∀ rd', (rd' = e.reads ∨ rd' = (i, e.ts, v) :: e.reads) → SimD tab ops C d' { e with ts := drawPut nt e.ts o v, anc := e.anc.set i (some (ancOf e.anc o)), reads := rd' } ∧ Prog C ⟨s, e.anc, reads, allocs⟩ e [] C d' { e with ts := drawPut nt e.ts o v, anc := e.anc.set i (some (ancOf e.anc o)), reads := rd' } := by
      intro hc h
      have h := forceT_ok (forceL_ok h)
      obtain ⟨ts, hh, log⟩ := s1
      simp only at h eh el hF1 Hs
      subst eh
      have h := forceL_ok h
      generalize readsOf ts o = rs at h
      obtain ⟨hdis, h⟩ := ck_ok h
      obtain ⟨a0, hn0, hg0⟩ := cutA H.wf (fun i => (∃ ob, C.Fz i = some ob) ∨ ∃ p ∈ rs, ∃ o' I, s.h.get p = some o' ∧ C.ρ p = some I ∧ I.cap.isSome ∧ I.β = i)
      have hpart : Part a0 e.h := by
        intro j ob hj
        rw [hg0] at hj
        split at hj
        · exact hj
        · cases hj
      have H0 : HS tab C ⟨s.h.next, onlyS s.h rs⟩ a0 := by
        refine Hs.part rfl (fun p o' hp => ?_) hpart hn0 (fun j ob hj => ?_) (fun p o' I hp hI hcap => ?_)
        · rw [onlyS_get] at hp
          split at hp
          · exact hp
          · cases hp
        · rw [hg0, if_pos (.inl ⟨ob, hj⟩)]; exact H.fz j ob hj
        · rw [onlyS_get] at hp
          split at hp
          · rename_i hm
            rw [hg0, if_pos (.inr ⟨p, hm, o', I, hp, hI, hcap, rfl⟩)]
          · cases hp
      obtain ⟨hlk, sv, v, hk, hp, hv⟩ := sop_look (s := ⟨ts, ⟨s.h.next, onlyS s.h rs⟩, []⟩) hF1 H0 hc (fun sv s1 hk => by have := (ck_ok hk).1; simp only [Bool.and_eq_true] at this; simpa using this.1) h
      obtain ⟨hfull, hk⟩ := ck_ok hk
      simp only [Bool.and_eq_true] at hfull
      have hbeq := full_beq hv hfull.2
      obtain ⟨s2, k1, k2, k3, k4⟩ := putS_ok hk hF1 hv
      have hhid : Part a0 (hideAll e.h e.allocs) := by
        intro β ob hβ
        rw [hideAll_get, if_neg]
        · exact hpart β ob hβ
        · rintro ⟨y, hy, rfl⟩
          obtain ⟨x, hx, ox, Ix, x1, x2, x3, x4⟩ := hal.right y hy
          rw [hg0] at hβ
          split at hβ
          · rename_i hP
            rcases hP with ⟨ob', hP⟩ | ⟨p, hpm, op, Ip, p1, p2, p3, p4⟩
            · have := H.dj x.2 ox Ix x1 x2 x3
              rw [x4, hP] at this; cases this
            · have := H.inj p x.2 op ox Ip Ix p1 x1 p2 x2 p3 x3 (by rw [p4, x4])
              have h5 := List.all_eq_true.1 (List.all_eq_true.1 hdis p hpm) x hx
              rw [this] at h5
              simp at h5
          · cases hβ
      refine ⟨_, v, k1, fun v' hx' hp' => ?_, pureOp_mono hc hlk hhid hp, fun rd' hrd' => ⟨⟨?_, ?_, rfl, ?_, ?_⟩, Prog.refl ?_ ?_ rfl rfl⟩⟩
      · have h5 := pureOp_mono hc hlk (h0 := { t := .e, next := 0 }) (h := a0) (fun j ob hj => by cases hj) hp'
        have h6 := pureOp_same ⟨by rcases hc with e | e <;> rw [e] <;> simp, by rcases hc with e | e <;> rw [e] <;> simp⟩ hp'
        rw [hp] at h5
        cases h5
        exact ⟨rfl, by rw [h6]⟩
      · simp only; rw [drawPut_eq]; exact k2
      · simp only; rw [k3]; exact H
      · simp only; rw [k3]; exact hal
      · simp only
        rw [k3]
        intro x hx
        rcases hrd' with rfl | rfl
        · obtain ⟨rs', g1, g2⟩ := hrd x hx
          exact ⟨rs', List.mem_cons_of_mem _ g1, g2⟩
        · rcases List.mem_cons.1 hx with rfl | hx
          · refine ⟨rs, List.mem_cons_self, o, a0, _, hi, hc, hlk, hbeq, hp, fun β ob hβ => ?_⟩
            have hβ' := hpart β ob hβ
            rw [hg0] at hβ
            split at hβ
            · rename_i hP
              rcases hP with ⟨ob', hP⟩ | hP
              · have := H.fz _ _ hP
                rw [hβ'] at this; cases this
                exact .inl hP
              · exact .inr ⟨hβ', hP⟩
            · cases hβ
          · obtain ⟨rs', g1, g2⟩ := hrd x hx
            exact ⟨rs', List.mem_cons_of_mem _ g1, g2⟩
      · simp only; rw [k4]; exact el
      · simp only; rw [k3]
    cases hcl : cls tab o with
    | eff =>
      rw [hcl] at h1
      simp only at h1 ⊢
      exact ⟨none, _, C, rfl, h1, ⟨hF1, Hs, rfl, by simp only; rw [eh]; exact hal, by simp only; rw [eh]; exact hrd⟩, Prog.refl el eh rfl rfl⟩
    | pure =>
      obtain ⟨d', v, g1, g2, g3, g4⟩ := look (.inl hcl) (by rw [hcl] at h1; exact h1)
      simp only
      cases hp : pureOp tab e.ts { t := .e, next := 0 } o with
      | ok r =>
        obtain ⟨v', hx'⟩ := r
        obtain ⟨rfl, hn⟩ := g2 v' hx' hp
        simp only
        rw [rb (rc (by rw [hn]; rfl))]
        obtain ⟨q1, q2⟩ := g4 e.reads (.inl rfl)
        exact ⟨_, d', C, rfl, g1, q1, q2⟩
      | no _ =>
        simp only
        rw [g3]
        obtain ⟨q1, q2⟩ := g4 _ (.inr rfl)
        exact ⟨_, d', C, rfl, g1, q1, q2⟩
    | read =>
      obtain ⟨d', v, g1, g2, g3, g4⟩ := look (.inr hcl) (by rw [hcl] at h1; exact h1)
      simp only
      rw [g3]
      obtain ⟨q1, q2⟩ := g4 _ (.inr rfl)
      exact ⟨_, d', C, rfl, g1, q1, q2⟩
    | alloc =>
      rw [hcl] at h1
      simp only at h1 ⊢
      have h2 := forceT_ok (forceL_ok h1)
      clear h1 look
      obtain ⟨ts, hh, log⟩ := s1
      simp only at h2 eh el hF1 Hs
      subst eh
      obtain ⟨sv, v, so, ao, I, m1, m2, m3, m4, m5, m6⟩ := sop_made (s := ⟨ts, s.h, []⟩) (a := e.h) hF1 hcl h2
      clear h2
      simp only [St.new] at m1
      obtain ⟨_, m1⟩ := ck_ok m1
      obtain ⟨q1, q2⟩ := H.new (ao := ao) (o := so) I m3 (fun hle => m6 _ _ hle (by rw [AH.get_new, if_pos rfl]))
      obtain ⟨s2, k1, k2, k3, k4⟩ := putS_ok (C := C.put s.h.next I) m1 (FS.le q1 hF1) (m5 _ q1 (Cx.put_same _ _ _))
      rw [rb (m2 { t := .e, next := e.h.next } rfl)]
      simp only
      rw [rb (rc (by simp)), rb (ro (show AH.get _ _ = some ao from by rw [AH.get_new, if_pos rfl]))]
      have hnew : ∀ p o', s.h.get p = some o' → (s.h.new so).get p = some o' := by
        intro p o' hp
        obtain ⟨J, hJ, _⟩ := H.obj p o' hp
        have := H.lt p J hJ
        rw [SH.get_new, if_neg (by omega)]; exact hp
      have hkeep : ∀ p o' J, s.h.get p = some o' → C.ρ p = some J → J.cap.isSome → (e.h.new ao).get J.β = e.h.get J.β := by
        intro p o' J hp hJ hc
        obtain ⟨b, hb⟩ := (H.at_ hp hJ).live hc
        have := H.wf _ _ hb
        rw [AH.get_new, if_neg (by omega)]
      refine ⟨_, _, C.put s.h.next I, rfl, k1, ⟨?_, ?_, rfl, ?_, ?_⟩, ⟨?_, q1.tr, ?_, ?_⟩⟩
      · simp only [Option.getD_some]; rw [drawPut_eq]; exact k2
      · simp only [Option.getD_some]; rw [k3]; exact q2
      · simp only [Option.getD_some]; rw [k3]
        refine ⟨rfl, ⟨so, I, by rw [SH.get_new, if_pos rfl], Cx.put_same _ _ _, m4, m3⟩, hal.mono fun x hx o' J hp hJ hc => ⟨o', hnew _ _ hp, q1.1 _ _ hJ⟩⟩
      · simp only [Option.getD_some]; rw [k3]
        intro x hx
        obtain ⟨rs, g1, g2⟩ := hrd x hx
        exact ⟨rs, g1, g2.mono q1.2 (fun p hp o' J hp hJ hc => ⟨hkeep p o' J hp hJ hc, o', hnew _ _ hp, q1.1 _ _ hJ⟩)⟩
      · simp only [List.append_nil]; rw [k4]; exact el
      · exact Grow.new _ _
      · simp only [Option.getD_some]; rw [k3]
        exact Keep.new H _ _ q1 (new_keeps H _)
end
end Go.Sy

namespace Go.Sy
open Go.Am Go.RowKit
universe u v

section
variable {P : Program} {tab : Tab} {cfg : Cfg} {ops : Array Oper} {nt : Nat} {rec : SM → (SV → St → Prop) → Prop}
theorem Prog.trans {C C' C'' : Cx} {d d' d'' : SD} {e e' e'' : DS} {l m : List Ev} (p : Prog C d e l C' d' e') (q : Prog C' d' e' m C'' d'' e'') (H : ∀ i o, C'.Fz i = some o → e'.h.get i = some o) (H' : ∀ i o, C''.Fz i = some o → e''.h.get i = some o) : Prog C d e (l ++ m) C'' d'' e'' :=
  ⟨by rw [q.log, p.log, List.append_assoc], p.tr.trans q.tr, p.grow.trans q.grow, p.keep.trans q.keep q.tr.fz H H'⟩
theorem pass_ok (htab : cfg.tab = tab) : ∀ (l : List Oper) (k : Nat) (d : SD) (e : DS) (C : Cx) (K : SD → Prop), (∀ j o, l[j]? = some o → ops[k + j]? = some o) → passS cfg ops nt k l d K → SimD tab ops C d e →
    ∃ e' d' C', drawPass tab ops nt k l e = .ok e' ∧ K d' ∧ SimD tab ops C' d' e' ∧ Prog C d e [] C' d' e' := by
  intro l
  induction l with
  | nil =>
    intro k d e C K _ h S
    exact ⟨e, d, C, rfl, h, S, Prog.refl rfl rfl rfl rfl⟩
  | cons o l ih =>
    intro k d e C K hl h S
    have hi := hl 0 o rfl
    have hl' : ∀ j o, l[j]? = some o → ops[k + 1 + j]? = some o := fun j o' hj => by
      have := hl (j + 1) o' (by simpa using hj)
      rwa [show k + 1 + j = k + (j + 1) from by omega]
    simp only [passS, S.anc] at h
    simp only [drawPass]
    cases hr : isReady e.anc k o
    · rw [hr] at h
      exact ih (k + 1) d e C K hl' h S
    · rw [hr] at h
      simp only [cond_true] at h ⊢
      obtain ⟨r, d1, C1, g1, g2, g3, g4⟩ := float_ok htab h S (by simpa using hi)
      rw [rb g1]
      obtain ⟨e', d', C', q1, q2, q3, q4⟩ := ih (k + 1) d1 _ C1 K hl' g2 g3
      refine ⟨e', d', C', ?_, q2, q3, ?_⟩
      · cases r <;> exact q1
      · have := g4.trans q4 g3.H.fz q3.H.fz
        simpa using this
theorem EffR.mono {ts : T AV} {h0 : AH} {o : Oper} {Θ Θ' : AV → AH → Prop} (h : EffR P tab ts h0 o Θ) (hi : ∀ v h1, h0.next ≤ h1.next → Θ v h1 → Θ' v h1) : EffR P tab ts h0 o Θ' := by
  rcases h with ⟨v, h1, k1, k2, k3⟩ | ⟨c', f, g, first, captured, args, fn, body, k1, k2, k3, k4, k5, k6, k7⟩
  · exact .inl ⟨v, h1, k1, k2, hi _ _ k2 k3⟩
  · exact .inr ⟨c', f, g, first, captured, args, fn, body, k1, k2, k3, k4, k5, k6, k7.mono fun v h1 ⟨a, b⟩ => ⟨a, hi _ _ a b⟩⟩
theorem reread_of {h : AH} : ∀ {l : List (Nat × T AV × AV)}, (∀ x ∈ l, ∃ o h1, ops[x.1]? = some o ∧ pureOp tab x.2.1 h o = .ok (x.2.2, h1) ∧ AV.beq x.2.2 x.2.2 = true) → reread tab ops h l = .ok () := by
  intro l
  induction l with
  | nil => intro _; rfl
  | cons x l ih =>
    intro hx
    obtain ⟨i, ts, v⟩ := x
    obtain ⟨o, h1, g1, g2, g3⟩ := hx _ List.mem_cons_self
    simp only at g1 g2 g3
    simp only [reread]
    rw [rb (ro g1), rb g2]
    simp only
    rw [rb (rc g3)]
    exact ih fun y hy => hx y (List.mem_cons_of_mem _ hy)
theorem onLog_miss : ∀ (log : List Ev) (s : SV) (b : Nat), (∀ e ∈ log, e.id ≠ b) → (s = .own b ∨ s = .eptr b 1 0 ∨ s = .ptr b 0) → onLog log s = s := by
  intro log
  induction log with
  | nil => intro s b _ _; rfl
  | cons e l ih =>
    intro s b hb hs
    have h1 := hb e List.mem_cons_self
    have : s.on e = s := by
      rcases hs with rfl | rfl | rfl <;> cases e <;> simp only [Ev.id] at h1 <;> simp only [SV.on] <;> first | rfl | (rw [beq_ne (fun h => h1 h.symm)]; rfl)
    simp only [onLog, this]
    exact ih s b (fun e' he => hb e' (List.mem_cons_of_mem _ he)) hs
/-- A block that no event tells of is where it was. -/
theorem Tr.same {C C' : Cx} {log : List Ev} (hT : Tr C log C') {p : Nat} {I : BI} (hI : C.ρ p = some I) (hc : I.cap.isSome) (hm : ∀ e ∈ log, e.id ≠ p) : C'.ρ p = some I := by
  obtain ⟨c, hc'⟩ := Option.isSome_iff_exists.1 hc
  have h1 := hT.val _ _ (.own hI hc')
  rw [onLog_miss log _ p hm (.inl rfl)] at h1
  have h2 := hT.val _ _ (.eptr (i := 1) (off := 0) hI hc)
  rw [onLog_miss log _ p hm (.inr (.inl rfl))] at h2
  obtain ⟨β, len, sz, cap⟩ := I
  simp only at h1 h2 hc'
  subst hc'
  generalize hv1 : AV.sl β 0 len c = v1 at h1
  generalize hv2 : AV.ptr β (1 * sz + 0) = v2 at h2
  cases h1 with
  | pure h => cases h
  | own0 hJ hc => cases hv1
  | own hJ hc =>
    rename_i J c2
    cases h2 with
    | pure h => cases h
    | eptr hJ' hc2 =>
      rw [hJ] at hJ'
      cases hJ'
      cases hv1
      simp only [AV.ptr.injEq] at hv2
      rw [hJ]
      obtain ⟨β', len', sz', cap'⟩ := J
      simp only at hc hv2 ⊢
      subst hc
      have : sz = sz' := by omega
      rw [this]
theorem logO_some (o : SO) : ∀ (log : List Ev), ∃ o', logO (some o) log = some o' ∧ ∀ {C C' : Cx} {I : BI} {a a' : AH}, Tr C log C' → a'.get I.β = a.get I.β → SimO tab C I o a → SimO tab C' I o' a' := by
  intro log
  cases o with
  | cells cs t =>
    have : ∀ (log : List Ev) (cs : List SV), logO (some (.cells cs t)) log = some (.cells (cs.map (onLog log)) t) := by
      intro log
      induction log with
      | nil => intro cs; simp [logO]; exact (List.map_id'' (fun _ => rfl) cs).symm
      | cons e l ih => intro cs; simp only [logO, Option.map_some, SO.on, ih, onL_eq, List.map_map]; rfl
    refine ⟨_, this log cs, fun hT hg ho => ?_⟩
    obtain ⟨g1, ca, sz, g2, g3, g4⟩ := ho
    refine ⟨g1, ca, sz, by rw [hg]; exact g2, ⟨by simpa using g3.1, fun i s v hs hv => ?_⟩, g4⟩
    rw [List.getElem?_map] at hs
    obtain ⟨s0, h0, rfl⟩ := Option.map_eq_some_iff.1 hs
    exact hT.val _ _ (g3.2 i s0 v h0 hv)
  | arr X L enc t =>
    have : ∀ (log : List Ev), logO (some (.arr X L enc t)) log = some (.arr X L enc t) := by
      intro log
      induction log with
      | nil => rfl
      | cons e l ih => simp only [logO, Option.map_some, SO.on, ih]
    refine ⟨_, this log, fun {C C' I a a'} hT hg ho => ?_⟩
    obtain ⟨h1, h2, h3, h4, h5⟩ := ho
    refine ⟨h1, h2, h3, h4, ?_⟩
    cases hcap : I.cap with
    | none => rw [hcap] at h5; exact h5
    | some c =>
      rw [hcap] at h5
      obtain ⟨ca, ext, bk, g1, g2, g3, g4, g5⟩ := h5
      refine ⟨ca, ext, bk, by rw [hg]; exact g1, g2, g3, g4, fun i x j v hx hv => ?_⟩
      obtain ⟨u, k1, k2⟩ := g5 i x j v hx hv
      exact ⟨u, k1, k2.mono hT.fz⟩
end
end Go.Sy

namespace Go.Sy
open Go.Am Go.RowKit
universe u v

section
variable {P : Program} {tab : Tab} {cfg : Cfg} {ops : Array Oper} {nt : Nat} {rec : SM → (SV → St → Prop) → Prop}
theorem modded_mem {p : Nat} : ∀ {l : List Ev}, p ∈ modded l → ∃ e ∈ l, e.id = p := by
  intro l
  induction l with
  | nil => intro h; cases h
  | cons e l ih =>
    intro h
    cases e with
    | kill b =>
      rcases List.mem_cons.1 h with rfl | h
      · exact ⟨_, List.mem_cons_self, rfl⟩
      · obtain ⟨e, h1, h2⟩ := ih h; exact ⟨e, List.mem_cons_of_mem _ h1, h2⟩
    | mod b =>
      rcases List.mem_cons.1 h with rfl | h
      · exact ⟨_, List.mem_cons_self, rfl⟩
      · obtain ⟨e, h1, h2⟩ := ih h; exact ⟨e, List.mem_cons_of_mem _ h1, h2⟩
    | frz b X L enc => obtain ⟨e, h1, h2⟩ := ih h; exact ⟨e, List.mem_cons_of_mem _ h1, h2⟩
theorem miss_of {log : List Ev} {b : Nat} (h : (!(memN b (log.map Ev.id))) = true) : ∀ e ∈ log, e.id ≠ b := by
  intro e he hb
  have : memN b (log.map Ev.id) = true := memN_iff.2 (List.mem_map.2 ⟨e, he, hb⟩)
  rw [this] at h; cases h

/-- What was hidden comes again. -/
theorem HS.bare {C C' : Cx} {h h' : SH} {a h1 : AH} {log : List Ev} {hid hidA : List (Nat × Nat)} (H : HS tab C h a) (hal : AlR C h hid hidA) (hT : Tr C log C') (H' : HS tab C' h' h1) (hG : Grow (hideAll a hidA) h1) (hm : ∀ x ∈ hid, ∀ e ∈ log, e.id ≠ x.2) :
    HS tab C' (bareS h' h log hid) (restore h1 a hidA) ∧ (∀ i b, h1.get i = some b → (restore h1 a hidA).get i = h1.get i) ∧ (∀ y ∈ hidA, h1.get y.2 = none) ∧ (∀ x ∈ hid, ∀ o I, h.get x.2 = some o → C.ρ x.2 = some I → I.cap.isSome → (restore h1 a hidA).get I.β = a.get I.β ∧ ∃ o', (bareS h' h log hid).get x.2 = some o' ∧ C'.ρ x.2 = some I) := by
  have hlt : ∀ y ∈ hidA, y.2 < a.next := by
    intro y hy
    obtain ⟨x, hx, o, I, g1, g2, g3, g4⟩ := hal.right y hy
    obtain ⟨b, hb⟩ := (H.at_ g1 g2).live g3
    rw [← g4]; exact H.wf _ _ hb
  have hnone : ∀ y ∈ hidA, h1.get y.2 = none := by
    intro y hy
    cases hz : h1.get y.2 with
    | none => rfl
    | some b =>
      rcases hG.old _ _ hz with ⟨o0, h0⟩ | hge
      · rw [hideAll_get, if_pos ⟨y, hy, rfl⟩] at h0; cases h0
      · rw [hideAll_next] at hge
        have := hlt y hy; omega
  have hlive : ∀ i b, h1.get i = some b → (restore h1 a hidA).get i = h1.get i := by
    intro i b hi
    rw [restore_get, if_neg]
    rintro ⟨y, hy, rfl⟩
    rw [hnone y hy] at hi; cases hi
  have hhid : ∀ x ∈ hid, ∀ o I, h.get x.2 = some o → C.ρ x.2 = some I → I.cap.isSome → (restore h1 a hidA).get I.β = a.get I.β ∧ h1.get I.β = none ∧ ∃ o', (bareS h' h log hid).get x.2 = some o' ∧ C'.ρ x.2 = some I ∧ SimO tab C' I o' (restore h1 a hidA) := by
    intro x hx o I ho hI hc
    obtain ⟨o1, I1, g1, g2, g3, y, hy, g4⟩ := hal.left x hx
    rw [hI] at g2; cases g2
    have e1 : (restore h1 a hidA).get I.β = a.get I.β := by rw [restore_get, if_pos ⟨y, hy, g4⟩]
    obtain ⟨o', k1, k2⟩ := logO_some o log
    refine ⟨e1, by rw [← g4]; exact hnone y hy, o', ?_, hT.same hI hc (hm x hx), k2 hT e1 (H.at_ ho hI)⟩
    rw [bareS_get, if_pos ⟨x, hx, rfl⟩, ho]; exact k1
  refine ⟨⟨?_, ?_, ?_, ?_, ?_, ?_⟩, hlive, hnone, fun x hx o I ho hI hc => ?_⟩
  · intro p o hp
    rw [bareS_get] at hp
    split at hp
    · rename_i hex
      obtain ⟨x, hx, rfl⟩ := hex
      obtain ⟨o1, I1, g1, g2, g3, _⟩ := hal.left x hx
      obtain ⟨_, _, o', k1, k2, k3⟩ := hhid x hx o1 I1 g1 g2 g3
      rw [bareS_get, if_pos ⟨x, hx, rfl⟩, hp] at k1
      cases k1
      exact ⟨I1, k2, k3⟩
    · obtain ⟨I, hI, ho⟩ := H'.obj p o hp
      refine ⟨I, hI, ?_⟩
      by_cases hc : I.cap.isSome
      · obtain ⟨b, hb⟩ := ho.live hc
        exact ho.congr (hlive _ _ hb)
      · cases o with
        | cells cs t => exact absurd ho.1 hc
        | arr X L enc t =>
          obtain ⟨g1, g2, g3, g4, g5⟩ := ho
          refine ⟨g1, g2, g3, g4, ?_⟩
          cases hcap : I.cap with
          | none => rw [hcap] at g5; exact g5
          | some c => rw [hcap] at hc; simp at hc
  · have key : ∀ p q o' I J, (∃ x ∈ hid, x.2 = p) → h'.get q = some o' → C'.ρ p = some I → C'.ρ q = some J → I.cap.isSome → J.cap.isSome → I.β ≠ J.β := by
      rintro p q o' I J ⟨x, hx, rfl⟩ hq hI hJ hc hc' e
      obtain ⟨o1, I1, g1, g2, g3, _⟩ := hal.left x hx
      obtain ⟨_, k0, _, _, k2, _⟩ := hhid x hx o1 I1 g1 g2 g3
      rw [hI] at k2; cases k2
      obtain ⟨b, hb⟩ := (H'.at_ hq hJ).live hc'
      rw [← e, k0] at hb; cases hb
    intro p q o o' I J hp hq hI hJ hc hc' e
    rw [bareS_get] at hp hq
    split at hp
    · rename_i h3
      split at hq
      · rename_i h4
        obtain ⟨x, hx, rfl⟩ := h3
        obtain ⟨z, hz, rfl⟩ := h4
        obtain ⟨o1, I1, g1, g2, g3, _⟩ := hal.left x hx
        obtain ⟨_, _, _, _, k2, _⟩ := hhid x hx o1 I1 g1 g2 g3
        obtain ⟨o2, I2, q1, q2, q3, _⟩ := hal.left z hz
        obtain ⟨_, _, _, _, k3, _⟩ := hhid z hz o2 I2 q1 q2 q3
        rw [hI] at k2; cases k2
        rw [hJ] at k3; cases k3
        exact H.inj _ _ o1 o2 I J g1 q1 g2 q2 g3 q3 e
      · exact absurd e (key p q o' I J h3 hq hI hJ hc hc')
    · split at hq
      · rename_i h4
        exact absurd e.symm (key q p o J I h4 hp hJ hI hc' hc)
      · exact H'.inj p q o o' I J hp hq hI hJ hc hc' e
  · intro i o hi
    have := H'.fz i o hi
    rw [hlive i o this]; exact this
  · intro p o I hp hI hc
    rw [bareS_get] at hp
    split at hp
    · rename_i h3
      obtain ⟨x, hx, rfl⟩ := h3
      obtain ⟨o1, I1, g1, g2, g3, _⟩ := hal.left x hx
      obtain ⟨_, k0, _, _, k2, _⟩ := hhid x hx o1 I1 g1 g2 g3
      rw [hI] at k2; cases k2
      cases hz : C'.Fz I.β with
      | none => rfl
      | some b =>
        have := H'.fz _ _ hz
        rw [k0] at this; cases this
    · exact H'.dj p o I hp hI hc
  · intro p I hI
    rw [bareS_next]; exact H'.lt p I hI
  · intro i o hi
    rw [restore_next]
    rw [restore_get] at hi
    split at hi
    · have := H.wf i o hi
      have h2 := hG.next
      rw [hideAll_next] at h2
      omega
    · exact H'.wf i o hi
  · obtain ⟨k1, _, o', k2, k3, _⟩ := hhid x hx o I ho hI hc
    exact ⟨k1, o', k2, k3⟩
end
end Go.Sy

namespace Go.Sy
open Go.Am Go.RowKit
universe u v

section
variable {P : Program} {tab : Tab} {cfg : Cfg} {ops : Array Oper} {nt : Nat} {rec : SM → (SV → St → Prop) → Prop}
theorem eff_ok (htab : cfg.tab = tab) (hrec : RecOK P tab rec) (hcon : ∀ g C, cfg.con g = some C → ConOK P tab g C) {C : Cx} {d : SD} {e : DS} {i : Nat} {o : Oper} {K : SD → Prop} (h : effS cfg rec ops nt i o d K) (S : SimD tab ops C d e) :
    EffD P tab ops nt i o e fun e' => ∃ d' C' new, K d' ∧ SimD tab ops C' d' e' ∧ Prog C d e new C' d' e' := by
  obtain ⟨s, anc, reads, allocs⟩ := d
  obtain ⟨hF, H, hanc, hal, hrd⟩ := S
  simp only at hF H hanc hal hrd
  subst hanc
  simp only [effS] at h
  obtain ⟨hok, h⟩ := ck_ok h
  obtain ⟨w, s1, h1, hw, hF1, eh, el⟩ := guardS_ok h hF
  clear h
  obtain ⟨rfl, h1⟩ := ck_ok h1
  have h := forceL_ok (forceL_ok (forceT_ok (forceL_ok h1)))
  clear h1
  obtain ⟨ts, hh, log⟩ := s1
  simp only at h eh el hF1
  subst eh
  have halh := hal.filter (fun j => !(memN j (ancOf e.anc o)))
  generalize hhd : (allocs.filter fun x => !(memN x.1 (ancOf e.anc o))) = hid at h halh
  generalize hhA : (e.allocs.filter fun x => !(memN x.1 (ancOf e.anc o))) = hidA at halh
  have hnot : ∀ p o' I, s.h.get p = some o' → C.ρ p = some I → I.cap.isSome → (¬ ∃ x ∈ hid, x.2 = p) → ¬ ∃ y ∈ hidA, y.2 = I.β := by
    rintro p o' I hp hI hc hn ⟨y, hy, hyb⟩
    obtain ⟨x, hx, ox, Ix, x1, x2, x3, x4⟩ := halh.right y hy
    exact hn ⟨x, hx, (H.inj p x.2 o' ox I Ix hp x1 hI x2 hc x3 (by rw [x4, hyb])).symm⟩
  have hfz : ∀ j ob, C.Fz j = some ob → ¬ ∃ y ∈ hidA, y.2 = j := by
    rintro j ob hj ⟨y, hy, rfl⟩
    obtain ⟨x, hx, ox, Ix, x1, x2, x3, x4⟩ := halh.right y hy
    have := H.dj x.2 ox Ix x1 x2 x3
    rw [x4, hj] at this; cases this
  have Hh : HS tab C (hideS s.h hid) (hideAll e.h hidA) := by
    refine H.part (hideS_next _ _) (fun p o' hp => ?_) (fun j ob hj => ?_) (hideAll_next _ _) (fun j ob hj => ?_) (fun p o' I hp hI hc => ?_)
    · rw [hideS_get] at hp
      split at hp
      · cases hp
      · exact hp
    · rw [hideAll_get] at hj
      split at hj
      · cases hj
      · exact hj
    · rw [hideAll_get, if_neg (hfz j ob hj)]; exact H.fz j ob hj
    · rw [hideS_get] at hp
      split at hp
      · cases hp
      · rename_i hn
        rw [hideAll_get, if_neg (hnot p o' I hp hI hc hn)]
  have heff := execS_ok (s := ⟨ts, hideS s.h hid, []⟩) (ta := e.ts) htab hrec hcon h hF1 Hh
  refine ⟨hok, hw, ?_⟩
  rw [hhA]
  refine heff.mono ?_
  rintro v h1 hle ⟨sv, s', hk, ⟨⟨C', new, e1, e2, e3, e4, e5, e6⟩, e7⟩⟩
  obtain ⟨ts', h', log'⟩ := s'
  simp only [List.nil_append] at e1 hk e4 e5
  subst e1
  obtain ⟨hck, hk⟩ := ck_ok hk
  simp only [Bool.and_eq_true, List.all_eq_true] at hck
  obtain ⟨hck1, hck2⟩ := hck
  obtain ⟨B1, B2, B3, B4⟩ := H.bare halh e2 e4 e7 (fun x hx => miss_of (hck2 x hx))
  obtain ⟨s2, k1, k2, k3, k4⟩ := putS_ok (s := ⟨ts', bareS h' s.h log' hid, log ++ log'⟩) hk e5 e3
  have hread : ∀ x ∈ e.reads.filter (fun x => !(memN x.1 (ancOf e.anc o))), ∃ rs, (x.1, rs) ∈ reads.filter (fun x => !(memN x.1 (ancOf e.anc o))) ∧ Stb tab ops C s.h e.h x rs ∧
      ∀ p ∈ rs, (∀ e ∈ log', e.id ≠ p) ∧ (h'.get p).isSome ∧ ¬ ∃ y ∈ hid, y.2 = p := by
    intro x hx
    obtain ⟨hx1, hx2⟩ := List.mem_filter.1 hx
    obtain ⟨rs, g1, g2⟩ := hrd x hx1
    have hm : (x.1, rs) ∈ reads.filter (fun x => !(memN x.1 (ancOf e.anc o))) := List.mem_filter.2 ⟨g1, hx2⟩
    refine ⟨rs, hm, g2, fun p hp => ?_⟩
    have h5 := hck1 _ hm p hp
    refine ⟨miss_of h5.1.1, h5.1.2, ?_⟩
    rintro ⟨y, hy, rfl⟩
    have h6 := h5.2 y hy
    simp at h6
  have hkeep : ∀ p o' I, s.h.get p = some o' → C.ρ p = some I → I.cap.isSome → (∀ e ∈ log', e.id ≠ p) → (h'.get p).isSome → (¬ ∃ y ∈ hid, y.2 = p) →
      (restore h1 e.h hidA).get I.β = e.h.get I.β ∧ ∃ o', (bareS h' s.h log' hid).get p = some o' ∧ C'.ρ p = some I := by
    intro p o' I hp hI hc hm hs hn
    obtain ⟨k, _⟩ := e6 p o' I (by simp only; rw [hideS_get, if_neg hn]; exact hp) hI hc (fun hmm => by
      obtain ⟨e', he', hid'⟩ := modded_mem hmm
      exact hm e' he' hid')
    rw [hideAll_get, if_neg (hnot p o' I hp hI hc hn)] at k
    obtain ⟨o2, ho2⟩ := Option.isSome_iff_exists.1 hs
    refine ⟨?_, o2, by rw [bareS_get, if_neg hn]; exact ho2, e2.same hI hc hm⟩
    rw [restore_get, if_neg (hnot p o' I hp hI hc hn)]; exact k
  have hstb : ∀ x ∈ e.reads.filter (fun x => !(memN x.1 (ancOf e.anc o))), ∃ rs, (x.1, rs) ∈ reads.filter (fun x => !(memN x.1 (ancOf e.anc o))) ∧ Stb tab ops C' (bareS h' s.h log' hid) (restore h1 e.h hidA) x rs := by
    intro x hx
    obtain ⟨rs, g1, g2, g3⟩ := hread x hx
    exact ⟨rs, g1, g2.mono e2.fz fun p hp o' I hpo hI hc => hkeep p o' I hpo hI hc (g3 p hp).1 (g3 p hp).2.1 (g3 p hp).2.2⟩
  refine ⟨reread_of fun x hx => ?_, _, C', log', k1, ⟨?_, ?_, rfl, ?_, ?_⟩, ⟨?_, e2, ?_, ?_⟩⟩
  · obtain ⟨rs, g1, g2, g3⟩ := hread x hx
    obtain ⟨ox, a0, hx1, q1, q2, q3, qb, q4, q5⟩ := g2
    refine ⟨ox, _, q1, pureOp_mono q2 q3 (h := hideAll (restore h1 e.h hidA) hidA) (fun β ob hβ => ?_) q4, qb⟩
    rcases q5 β ob hβ with hz | ⟨hz, p, hp, o', I, p1, p2, p3, rfl⟩
    · rw [hideAll_get, if_neg (hfz β ob hz), restore_get, if_neg (hfz β ob hz)]
      exact e4.fz _ _ (e2.fz _ _ hz)
    · obtain ⟨r1, r2, r3⟩ := g3 p hp
      rw [hideAll_get, if_neg (hnot p o' I p1 p2 p3 r3), (hkeep p o' I p1 p2 p3 r1 r2 r3).1]; exact hz
  · simp only; rw [drawPut_eq]; exact k2
  · simp only; rw [k3]; exact B1
  · simp only; rw [k3]
    exact halh.mono fun x hx o' I hp hI hc => (B4 x hx o' I hp hI hc).2
  · simp only; rw [k3]; exact hstb
  · simp only; rw [k4]; simp only; rw [el]
  · refine ⟨?_, fun j ob hj => ?_⟩
    · simp only; rw [restore_next]; have := e7.next; rw [hideAll_next] at this; exact this
    · simp only at hj
      rw [restore_get] at hj
      split at hj
      · exact .inl ⟨ob, hj⟩
      · rcases e7.old j ob hj with ⟨o0, h0⟩ | hge
        · rw [hideAll_get] at h0
          split at h0
          · cases h0
          · exact .inl ⟨o0, h0⟩
        · rw [hideAll_next] at hge; exact .inr hge
  · simp only; rw [k3]
    intro p o' I hp hI hc hm
    by_cases hn : ∃ y ∈ hid, y.2 = p
    · obtain ⟨y, hy, rfl⟩ := hn
      obtain ⟨q1, q2⟩ := B4 y hy o' I hp hI hc
      exact ⟨q1, .inl q2⟩
    · obtain ⟨q1, q2⟩ := e6 p o' I (by simp only; rw [hideS_get, if_neg hn]; exact hp) hI hc hm
      rw [hideAll_get, if_neg (hnot p o' I hp hI hc hn)] at q1
      refine ⟨by rw [restore_get, if_neg (hnot p o' I hp hI hc hn)]; exact q1, ?_⟩
      rcases q2 with ⟨o2, r1, r2⟩ | r
      · exact .inl ⟨o2, by simp only; rw [bareS_get, if_neg hn]; exact r1, r2⟩
      · exact .inr r
theorem draws_ok (htab : cfg.tab = tab) (hrec : RecOK P tab rec) (hcon : ∀ g C, cfg.con g = some C → ConOK P tab g C) : DrawsOK P tab cfg rec := by
  have main : ∀ (ops : Array Oper) (nt n : Nat) (d : SD) (e : DS) (C : Cx) (K : St → Prop), drawS cfg rec ops nt n d K → SimD tab ops C d e →
      TodoR P tab ops nt (fun sF => ∃ s' C' new, K s' ∧ s'.log = d.s.log ++ new ∧ Tr C new C' ∧ HS tab C' s'.h sF.h ∧ FS C' s'.ts sF.ts ∧ Grow e.h sF.h ∧ Keep C d.s.h e.h new C' s'.h sF.h) n e := by
    intro ops nt n
    induction n with
    | zero => intro d e C K h; exact h.elim
    | succ n ih =>
      intro d e C K h S
      simp only [drawS] at h
      obtain ⟨e1, d1, C1, g1, g2, g3, g4⟩ := pass_ok htab ops.toList 0 d e C _ (fun j o hj => by simpa using hj) h S
      refine ⟨e1, g1, ?_⟩
      rw [g3.anc] at g2
      split at g2
      · rename_i hc
        obtain ⟨_, hk⟩ := ck_ok g2
        exact .inl ⟨hc, d1.s, C1, [], hk, g4.log, g4.tr, g3.H, g3.F, g4.grow, g4.keep⟩
      · rename_i c o hc
        refine .inr ⟨c, o, hc, ?_⟩
        obtain ⟨q1, q2, q3⟩ := eff_ok htab hrec hcon g2 g3
        refine ⟨q1, q2, q3.mono fun v h1 _ hΘ => ⟨hΘ.1, ?_⟩⟩
        obtain ⟨d2, C2, new, k1, k2, k3⟩ := hΘ.2
        refine TodoR.mono ?_ _ _ (ih d2 _ C2 K k1 k2)
        rintro sF ⟨s', C', new', r1, r2, r3, r4, r5, r6, r7⟩
        have p := g4.trans k3 g3.H.fz k2.H.fz
        simp only [List.nil_append] at p
        exact ⟨s', C', new ++ new', r1, by rw [r2, p.log, List.append_assoc], p.tr.trans r3, r4, r5, p.grow.trans r6, p.keep.trans r7 r3.fz k2.H.fz r4.fz⟩
      · exact g2.elim
  intro ops nt n s K ta a C h hF H
  exact main ops nt n ⟨s, .e, [], []⟩ { ts := ta, h := a, anc := .e, reads := [], allocs := [] } C K h ⟨hF, H, rfl, trivial, fun x hx => by cases hx⟩
/-- The verification condition holds: so does what it is asked for. -/
theorem wp_ok (pr : PrOK P tab) (htab : cfg.tab = tab) (hcon : ∀ g C, cfg.con g = some C → ConOK P tab g C) (n : Nat) : RecOK P tab (wp cfg n) :=
  wp_sound pr htab hcon (fun _ hrec => draws_ok htab hrec hcon) n
end
end Go.Sy

namespace Go.Sy
open Go.Am Go.RowKit
universe u v

section
variable (cfg : Cfg)
/-- Is a result what a contract says? -/
def resM (e v : SV) (s : St) : Prop :=
  match s with
  | ⟨_, h, _⟩ => match e, v with
    | .tup es, .tup vs => argM cfg 1000 es vs ⟨[], h, []⟩ fun _ => True
    | .tup _, _ => False
    | e, v => argM cfg 1000 [e] [v] ⟨[], h, []⟩ fun _ => True
/-- What is asked for a contract. -/
def askC (n : Nat) (f : FuncId) (C : Con) : Prop := ∀ y : C.Y, C.pre y → ask cfg n f (C.args y) (resM cfg (C.res y))
end
section
variable {P : Program} {tab : Tab} {cfg : Cfg}
theorem resM_ok (htab : cfg.tab = tab) {e v : SV} {s : St} (h : resM cfg e v s) {C : Cx} {a : AH} {av : AV} (H : HS tab C s.h a) (hv : SimV C v av) : ∃ Fz' : Nat → Option AO, (∀ i o, C.Fz i = some o → Fz' i = some o) ∧ (∀ i o, Fz' i = some o → a.get i = some o) ∧ SimP Fz' e av := by
  obtain ⟨ts, hh, log⟩ := s
  have one : ∀ (e v : SV), argM cfg 1000 [e] [v] ⟨[], hh, []⟩ (fun _ => True) → SimV C v av → ∃ Fz' : Nat → Option AO, (∀ i o, C.Fz i = some o → Fz' i = some o) ∧ (∀ i o, Fz' i = some o → a.get i = some o) ∧ SimP Fz' e av := by
    intro e v h hv
    obtain ⟨C1, new, s1, g1, g2, g3, g4, g5, _, g7⟩ := argM_ok (ta := .e) htab 1000 _ _ [av] _ C _ h (SimL.cons hv SimL.nil) (fun t s hs => by simp [look] at hs) H
    exact ⟨C1.Fz, g2.fz, g3.fz, g7.2 0 e av rfl rfl⟩
  simp only [resM] at h
  split at h
  · rename_i es vs
    obtain ⟨us, rfl, hs⟩ := tup_ok hv
    obtain ⟨C1, new, s1, g1, g2, g3, g4, g5, _, g7⟩ := argM_ok (ta := .e) htab 1000 _ _ us _ C _ h hs (fun t s hs => by simp [look] at hs) H
    exact ⟨C1.Fz, g2.fz, g3.fz, .tup g7.1 g7.2⟩
  · exact h.elim
  · exact one _ _ h hv
theorem askC_ok (pr : PrOK P tab) (htab : cfg.tab = tab) (hcon : ∀ g C, cfg.con g = some C → ConOK P tab g C) {n : Nat} {f : FuncId} {C : Con} (h : askC cfg n f C) : ConOK P tab f C := by
  refine ConOK.of fun fn body hfn hb y hy C0 a avs hρ H hlen hav => ?_
  have h1 := h y hy
  unfold ask at h1
  rw [htab, hfn] at h1
  simp only [hb] at h1
  refine (wp_ok pr htab hcon n f fn body (C.args y) ⟨0, []⟩ a C0 avs _ hfn hb h1 H ⟨hlen, fun i s v hs hv => .pure (hav i s v hs hv)⟩).mono ?_
  rintro v a' ⟨sv, s', C', k1, k2, k3, k4⟩
  exact ⟨sv, s', C', fun C1 a1 av H1 hv1 => resM_ok htab k1 H1 hv1, k2, k3, k4⟩
end
end Go.Sy

namespace Go.Sy
open Go.Am Go.RowKit
universe u v

/-- True. -/
def isT (v : SV) (_ : St) : Prop := match v with | .bool b => b = true | _ => False
section
variable {P : Program} {tab : Tab} {cfg : Cfg}
/-- A law whose arguments hold no block. -/
theorem law_of_ask (pr : PrOK P tab) (htab : cfg.tab = tab) (hcon : ∀ g C, cfg.con g = some C → ConOK P tab g C) {n : Nat} {f : FuncId} {fn : Func} {body : Code} {svs : List SV} {avs : List AV} {argsC : Array Value} {w : World} (hfn : tab.fns.get f = some fn) (hb : fn.body = some body)
    (h : ask cfg n f svs isT) (hs : SimL ⟨fun _ => none, fun _ => none⟩ svs avs) (hargs : ∀ E, (concL E avs).toArray = argsC) :
    Calls P f argsC w (fun e w' => e = .returned (.bool true) ∧ Below w.heap.size w w') := by
  unfold ask at h
  rw [htab, hfn] at h
  simp only [hb] at h
  have hget : ∀ i, emptyH.get i = none := fun i => rfl
  have hgo := wp_ok pr htab hcon n f fn body svs ⟨0, []⟩ emptyH ⟨fun _ => none, fun _ => none⟩ avs _ hfn hb h
    ⟨fun p o hp => (by simp [SH.get, look] at hp), fun p q o o' I J hp => (by simp [SH.get, look] at hp), fun i o hi => (by cases hi), fun p o I hp => (by simp [SH.get, look] at hp), fun p I hp => (by cases hp), fun i o hi => (by rw [hget] at hi; cases hi)⟩ hs
  intro cs
  have hP := pr.ok.fns f fn hfn
  let E : Env := ⟨fun _ => 0, fun _ => 0⟩
  let D : Nat → Prop := fun _ => False
  have hR : Rel D E (KS.old w.heap.size) { fr := AFrame.enter fn f body avs .normal, cs := [], h := emptyH } cs (Frame.enter P f argsC .normal) cs w := by
    refine ⟨fun E' _ => ⟨empty_ok E' _ w (fun b h => h) (fun b h => h), ?_, rfl⟩, fun i h => h.elim, enter_wf _ _ _ _ _, fun f hf => by cases hf⟩
    rw [← hargs E', enter_conc hP hb]
  obtain ⟨v, h', ⟨sv, s', C', hQ, hsv, _⟩, fr', w', v', E', D', s1, s2, s3, s4, s5, s6, s7, s8, s9, s10⟩ := hgo D E _ cs _ cs w hR
  obtain ⟨_, g2⟩ := s4 E' (Agree.refl _ _)
  have hv : v = .bool true := by
    unfold isT at hQ
    split at hQ
    · rw [hQ] at hsv; exact bool_ok hsv
    · exact hQ.elim
  subst hv
  subst g2
  exact ⟨.returned (.bool true), w', fr', ⟨rfl, s8.os, s8.tape, s8.output, s8.size, s8.block⟩, s1, s2, s3⟩
end
end Go.Sy

namespace Go.Sy
open Go.Am Go.RowKit
universe u v

section
variable {P : Program} {tab : Tab}
/-- A call of which neither arguments nor result hold a block, from wherever. -/
theorem AGo.shut (ok : TabOK P tab) {f : FuncId} {fn : Func} {body : Code} {avs : List AV} {Θ : AV → AH → Prop} (hfn : tab.fns.get f = some fn) (hb : fn.body = some body) (hgo : AGo P { fr := AFrame.enter fn f body avs .normal, cs := [], h := emptyH } Θ)
    (hargs : ∀ E E', concL E avs = concL E' avs) (hv : ∀ v h', Θ v h' → ∀ E E', conc E v = conc E' v) (a : AH) : AGo P { fr := AFrame.enter fn f body avs .normal, cs := [], h := a } fun v a' => a' = a ∧ ∃ h', Θ v h' := by
  intro D E K base frC csC w hR
  have hP := ok.fns f fn hfn
  obtain ⟨q1, q2, q3⟩ := hR.all E (Agree.refl _ _)
  have hR0 : Rel (fun _ => False) E (KS.old w.heap.size) { fr := AFrame.enter fn f body avs .normal, cs := [], h := emptyH } base frC csC w := by
    refine ⟨fun E' _ => ⟨empty_ok E' _ w (fun b h => h) (fun b h => h), ?_, q3⟩, fun i h => h.elim, hR.wf⟩
    rw [← q2]
    simp only
    rw [← enter_conc hP hb, ← enter_conc hP hb, hargs E' E]
  obtain ⟨v, h', hΘ, fr', w', v', E', D', s1, s2, s3, s4, s5, s6, s7, s8, s9, s10⟩ := hgo _ E _ base frC csC w hR0
  refine ⟨v, a, ⟨rfl, h', hΘ⟩, fr', w', v', E, D, s1, s2, s3, fun E'' he => ⟨?_, ?_⟩, Agree.refl _ _, fun _ h => h, hR.dom, ⟨s8.os, s8.tape, s8.output, s8.size, fun b hb' => s8.block b (q1.kb b hb')⟩, Nat.le_refl _, fun i hi => .inl hi⟩
  · obtain ⟨g1, _, _⟩ := hR.all E'' he
    refine ⟨fun i o hi => ?_, g1.nk, g1.inj, g1.dom, fun b hb' => Nat.lt_of_lt_of_le (g1.kb b hb') s8.size, g1.im, g1.k0⟩
    obtain ⟨c, h1, h2⟩ := g1.obj i o hi
    refine ⟨c, ?_, h2⟩
    rw [s8.block _ (Array.getElem?_eq_some_iff.1 h1).1]; exact h1
  · rw [← (s4 E' (Agree.refl _ _)).2]; exact hv v h' hΘ _ _
/-- The contract of a closed run. -/
theorem ConOK.shut (pr : PrOK P tab) {f : FuncId} {C : Con} (h : ∀ fn body, tab.fns.get f = some fn → fn.body = some body → ∀ y, C.pre y → ∀ avs Fz, PL Fz (C.args y) avs → (∀ E E', concL E avs = concL E' avs) ∧ ∃ Θ : AV → AH → Prop, AGo P { fr := AFrame.enter fn f body avs .normal, cs := [], h := emptyH } Θ ∧ ∀ v h', Θ v h' → (∀ E E', conc E v = conc E' v) ∧ SimP (fun _ => none) (C.res y) v) : ConOK P tab f C := by
  intro fn body hfn hb y hy Fz a avs hfz hwf hlen hav
  obtain ⟨h1, Θ, h2, h3⟩ := h fn body hfn hb y hy avs Fz ⟨hlen, hav⟩
  refine (AGo.shut pr.ok hfn hb h2 h1 (fun v h' hv => (h3 v h' hv).1) a).mono ?_
  rintro v a' ⟨rfl, h', hv⟩
  exact ⟨Fz, fun _ _ h => h, hfz, (h3 v h' hv).2.mono (fun _ _ h => by cases h), Grow.refl _, fun _ _ h => h, hwf, fun _ _ h => .inl h⟩
/-- A run of Am. -/
theorem AGo.run (pr : PrOK P tab) {n : Nat} {m : AM} {outs : List (AV × AH)} (h : Am.run tab n m = .ok outs) : AGo P m fun v h' => (v, h') ∈ outs := by
  intro D E K base frC csC w hR
  exact (run_sound pr.ok pr.ext (fun sub hsub => draw_sound pr.ok hsub pr.ext pr.mix) n).1 m outs h D E K base frC csC w hR
end
end Go.Sy

namespace Go.Sy
open Go.Am Go.RowKit
universe u v

/-! The world's own rows, as blocks that are only read. -/
def absV (n : Nat) : Value → AV
  | .bool b => .bool b
  | .int k z => .int k z
  | .string s => .str s.data.toList
  | .pointer none => .nilp
  | .slice none 0 0 => .nils
  | .slice (some ⟨b, off, none⟩) (len + 1) cap => if b < n then .sl b off (len + 1) (.lit cap) else .raw (.slice (some ⟨b, off, none⟩) (len + 1) cap)
  | .map none => .nilm
  | .nilFunc => .nilf
  | v => .raw v
def absA (n : Nat) : Value → AV
  | .agg cs => .agg (cs.toList.map (absV n))
  | v => absV n v
theorem conc_absV {n : Nat} {E : Env} (hE : ∀ i, i < n → E.blk i = i) (v : Value) : conc E (absV n v) = v := by
  unfold absV
  split <;> try (simp [conc]; done)
  split
  · rename_i b off len cap hb
    simp [conc, hE _ hb, Cap.val]
  · simp [conc]
theorem concL_absV {n : Nat} {E : Env} (hE : ∀ i, i < n → E.blk i = i) (l : List Value) : concL E (l.map (absV n)) = l := by
  induction l with
  | nil => rfl
  | cons v l ih => simp [conc_absV hE, ih]
theorem conc_absA {n : Nat} {E : Env} (hE : ∀ i, i < n → E.blk i = i) (v : Value) : conc E (absA n v) = v := by
  unfold absA
  split
  · simp [conc, concL_absV hE]
  · exact conc_absV hE _
theorem concL_absA {n : Nat} {E : Env} (hE : ∀ i, i < n → E.blk i = i) (l : List Value) : concL E (l.map (absA n)) = l := by
  induction l with
  | nil => rfl
  | cons v l ih => simp [conc_absA hE, ih]

def rowO (tab : Tab) (w : World) (b : Nat) : Option AO :=
  match w.heap[b]? with
  | some (.cells arr e _) => some (.cells (arr.toList.map (absV w.heap.size)) e ((tab.siz.get e).getD 1) false .ro)
  | _ => none
def rowH (tab : Tab) (w : World) : AH := ofFn w.heap.size (rowO tab w)
theorem rowO_some {tab : Tab} {w : World} {b : Nat} {o : AO} (h : rowO tab w b = some o) : ∃ arr e fz, w.heap[b]? = some (.cells arr e fz) ∧ o = .cells (arr.toList.map (absV w.heap.size)) e ((tab.siz.get e).getD 1) false .ro := by
  unfold rowO at h
  split at h
  · rename_i arr e fz hb
    cases h
    exact ⟨arr, e, fz, hb, rfl⟩
  · cases h
theorem rowH_get {tab : Tab} {w : World} {b : Nat} : (rowH tab w).get b = rowO tab w b := by
  unfold rowH
  rw [ofFn_get]
  split
  · rfl
  · rename_i hb
    unfold rowO
    rw [Array.getElem?_eq_none (by omega)]
theorem rowH_ok (tab : Tab) (w : World) {E : Env} (hE : ∀ i, i < w.heap.size → E.blk i = i) : HOK E (rowH tab w) (KS.old w.heap.size) w := by
  have hro : ∀ i o, (rowH tab w).get i = some o → o.ro ∧ i < w.heap.size := by
    intro i o hi
    rw [rowH_get] at hi
    obtain ⟨arr, e, fz, hb, rfl⟩ := rowO_some hi
    exact ⟨trivial, (Array.getElem?_eq_some_iff.1 hb).1⟩
  refine ⟨fun i o hi => ?_, fun i o hi hr => absurd (hro i o hi).1 hr, fun i j oi oj hi hj hr => absurd (hro i oi hi).1 hr, fun i o hi => (hro i o hi).2, fun b hb => hb, fun i o hi _ => ?_, fun b hb => hb⟩
  · rw [rowH_get] at hi
    obtain ⟨arr, e, fz, hb, rfl⟩ := rowO_some hi
    have hlt := (Array.getElem?_eq_some_iff.1 hb).1
    refine ⟨_, by rw [hE i hlt]; exact hb, arr, fz, rfl, ⟨[], by simp [concL_absV hE]⟩, by simp, trivial⟩
  · show E.blk i < w.heap.size
    rw [hE i (hro i o hi).2]
    exact (hro i o hi).2

theorem absV_raw (n : Nat) (a : Addr) (c : Nat) : absV n (.slice (some a) 0 c) = .raw (.slice (some a) 0 c) := by
  unfold absV
  split <;> simp_all
theorem absV_sl {n b off len cap : Nat} (h : len ≠ 0) (hb : b < n) : absV n (.slice (some ⟨b, off, none⟩) len cap) = .sl b off len (.lit cap) := by
  cases len with
  | zero => exact absurd rfl h
  | succ len => simp [absV, hb]
/-- A list that lies in the world. -/
theorem rows_lst {tab : Tab} {w : World} {X : Type} {L : List X} {enc : X → List SV} {b off len cap : Nat} {arr : Array Value} {e : TypeId} {fz : Nat × Nat} {sz : Nat} (hb : w.heap[b]? = some (.cells arr e fz))
    (h0 : 0 < sz) (hn : ∀ x ∈ L, (enc x).length = sz) (hl : off + L.length * sz ≤ arr.size) (hlen : len = L.length) (hcap : len ≤ cap)
    (hc : ∀ (i : Nat) x (j : Nat) v, L[i]? = some x → (enc x)[j]? = some v → ∃ u, arr[off + i * sz + j]? = some u ∧ SimP (rowH tab w).get v (absV w.heap.size u)) :
    SimP (rowH tab w).get (.lst X L enc) (absV w.heap.size (.slice (some ⟨b, off, none⟩) len cap)) := by
  have hlt := (Array.getElem?_eq_some_iff.1 hb).1
  have hg : (rowH tab w).get b = some (.cells (arr.toList.map (absV w.heap.size)) e ((tab.siz.get e).getD 1) false .ro) := by
    rw [rowH_get]
    unfold rowO
    rw [hb]
  subst hlen
  by_cases hL : L.length = 0
  · rw [hL, absV_raw]
    exact .lst0 hL (.inr (.inr ⟨_, _, rfl⟩))
  rw [absV_sl hL hlt]
  refine .lst b off (.lit cap) _ e sz false .ro (fun i j => absV w.heap.size (arr[off + i * sz + j]?.getD (.bool false))) ⟨_, false, hg, fun h => by cases h⟩ h0 (by simpa using hl) (fun i x hx => hn x (List.mem_of_getElem? hx)) hcap ?_ ?_
  · intro i x j v hx hv
    obtain ⟨u, hu, _⟩ := hc i x j v hx hv
    simp [hu]
  · intro i x j v hx hv
    obtain ⟨u, hu, hs⟩ := hc i x j v hx hv
    simp only [hu, Option.getD_some]
    exact hs

section
variable {P : Program} {tab : Tab} {cfg : Cfg}
/-- A call whose arguments may lie in the world, and whose result holds no block. -/
theorem calls_of_ask (pr : PrOK P tab) (htab : cfg.tab = tab) (hcon : ∀ g C, cfg.con g = some C → ConOK P tab g C) {n : Nat} {f : FuncId} {fn : Func} {svs : List SV} {args : List Value} {w : World} {Q : SV → St → Prop} {Θ : Value → Prop} (hfn : tab.fns.get f = some fn)
    (h : ask cfg n f svs Q) (hs : SimL ⟨fun _ => none, (rowH tab w).get⟩ svs (args.map (absA w.heap.size))) (hQ : ∀ sv s, Q sv s → ∀ C av E, SimV C sv av → Θ (conc E av)) :
    Calls P f args.toArray w (fun e w' => (∃ v, Θ v ∧ e = .returned v) ∧ Below w.heap.size w w') := by
  unfold ask at h
  rw [htab, hfn] at h
  simp only at h
  cases hb : fn.body with
  | none => rw [hb] at h; exact h.elim
  | some body =>
  rw [hb] at h
  simp only at h
  have hdom : ∀ i o, (rowH tab w).get i = some o → i < (rowH tab w).next := fun i o hi => (rowH_ok tab w (E := ⟨fun i => i, fun _ => 0⟩) (fun _ _ => rfl)).dom i o hi
  have hgo := wp_ok pr htab hcon n f fn body svs ⟨0, []⟩ (rowH tab w) ⟨fun _ => none, (rowH tab w).get⟩ (args.map (absA w.heap.size)) _ hfn hb h
    ⟨fun p o hp => (by simp [SH.get, look] at hp), fun p q o o' I J hp => (by simp [SH.get, look] at hp), fun i o hi => hi, fun p o I hp => (by simp [SH.get, look] at hp), fun p I hp => (by cases hp), hdom⟩ hs
  intro cs
  have hP := pr.ok.fns f fn hfn
  let E : Env := ⟨fun i => i, fun _ => 0⟩
  let D : Nat → Prop := fun i => i < w.heap.size
  have hag : ∀ E', Agree D E E' → ∀ i, i < w.heap.size → E'.blk i = i := fun E' he i hi => (he i hi).1
  have hR : Rel D E (KS.old w.heap.size) { fr := AFrame.enter fn f body (args.map (absA w.heap.size)) .normal, cs := [], h := rowH tab w } cs (Frame.enter P f args.toArray .normal) cs w := by
    refine ⟨fun E' he => ⟨rowH_ok tab w (hag E' he), ?_, rfl⟩, fun i h => h, enter_wf _ _ _ _ _, fun f hf => by cases hf⟩
    rw [← enter_conc hP hb, concL_absA (hag E' he)]
  obtain ⟨v, h', ⟨sv, s', C', hq, hsv, _⟩, fr', w', v', E', D', s1, s2, s3, s4, s5, s6, s7, s8, s9, s10⟩ := hgo D E _ cs _ cs w hR
  obtain ⟨_, g2⟩ := s4 E' (Agree.refl _ _)
  subst g2
  exact ⟨.returned (conc E' v), w', fr', ⟨⟨_, hQ sv s' hq C' v E' hsv, rfl⟩, s8.os, s8.tape, s8.output, s8.size, s8.block⟩, s1, s2, s3⟩
/-- A law whose arguments may lie in the world. -/
theorem law_of_rows (pr : PrOK P tab) (htab : cfg.tab = tab) (hcon : ∀ g C, cfg.con g = some C → ConOK P tab g C) {n : Nat} {f : FuncId} {fn : Func} {svs : List SV} {args : List Value} {w : World} (hfn : tab.fns.get f = some fn)
    (h : ask cfg n f svs isT) (hs : SimL ⟨fun _ => none, (rowH tab w).get⟩ svs (args.map (absA w.heap.size))) :
    Calls P f args.toArray w (fun e w' => e = .returned (.bool true) ∧ Below w.heap.size w w') := by
  refine (calls_of_ask (Θ := fun v => v = .bool true) pr htab hcon hfn h hs ?_).mono ?_
  · intro sv s hq C av E hsv
    unfold isT at hq
    split at hq
    · rw [hq] at hsv; rw [bool_ok hsv]; rfl
    · exact hq.elim
  · rintro e w' ⟨⟨v, rfl, he⟩, hb⟩
    exact ⟨he, hb⟩
/-- True, or false. -/
def isB (v : SV) (_ : St) : Prop := match v with | .bool _ => True | _ => False
theorem isB_ok {sv : SV} {s : St} (h : isB sv s) {C : Cx} {av : AV} {E : Env} (hv : SimV C sv av) : ∃ b, conc E av = .bool b := by
  unfold isB at h
  split at h
  · rw [bool_ok hv]; exact ⟨_, rfl⟩
  · exact h.elim
end
end Go.Sy

namespace Go.Sy
open Go.Am Go.RowKit
universe u v

/-! For those who read a condition. -/
abbrev eqI (a b : Int) : Prop := a = b
abbrev ltN (a b : Nat) : Prop := a < b
theorem br_iff {b : Bool} {p q : Prop} : br b p q ↔ (b = true → p) ∧ (b = false → q) := by
  cases b <;> simp [br]
theorem ck_iff {b : Bool} {p : Prop} : ck b p ↔ b = true ∧ p := by
  cases b <;> simp [ck]
theorem so_iff {α : Type u} {x : Option α} {k : α → Prop} : so x k ↔ ∃ a, x = some a ∧ k a := by
  cases x <;> simp [so]
theorem nn_eq (n : Int) : nn n = decide (0 ≤ n) := by
  rw [Bool.eq_iff_iff]
  cases n with
  | ofNat a => simp only [nn, decide_eq_true_eq, true_iff]; exact Int.natCast_nonneg a
  | negSucc a => simp only [nn, decide_eq_true_eq, Bool.false_eq_true, false_iff]; omega
theorem inR64 (n : Int) : inR .i64 n = true ↔ -9223372036854775808 ≤ n ∧ n ≤ 9223372036854775807 := by
  simp only [inR, loI, hiI, leI_eq, Bool.and_eq_true, decide_eq_true_eq]
  constructor <;> rintro ⟨h1, h2⟩ <;> constructor <;> (try simp only [Int.ofNat_eq_natCast] at *) <;> omega

/-- What is asked for a contract; what is said of loops may speak of the arguments. -/
def askY {C : Con} (cfg : C.Y → Cfg) (n : Nat) (f : FuncId) : Prop := ∀ y : C.Y, C.pre y → ask (cfg y) n f (C.args y) (resM (cfg y) (C.res y))
theorem askY_ok {P : Program} {tab : Tab} {C : Con} {cfg : C.Y → Cfg} (pr : PrOK P tab) (htab : ∀ y, (cfg y).tab = tab) (hcon : ∀ y g C', (cfg y).con g = some C' → ConOK P tab g C') {n : Nat} {f : FuncId} (h : askY cfg n f) : ConOK P tab f C := by
  refine ConOK.of fun fn body hfn hb y hy C0 a avs hρ H hlen hav => ?_
  have h1 := h y hy
  unfold ask at h1
  rw [htab y, hfn] at h1
  simp only [hb] at h1
  refine (wp_ok pr (htab y) (hcon y) n f fn body (C.args y) ⟨0, []⟩ a C0 avs _ hfn hb h1 H ⟨hlen, fun i s v hs hv => .pure (hav i s v hs hv)⟩).mono ?_
  rintro v a' ⟨sv, s', C', k1, k2, k3, k4⟩
  exact ⟨sv, s', C', fun C1 a1 av H1 hv1 => resM_ok (htab y) k1 H1 hv1, k2, k3, k4⟩

/-- A table of contracts: one ahead of the others. -/
theorem con_step {P : Program} {tab : Tab} {con : FuncId → Option Con} {k : FuncId} {c : Con} (hc : ConOK P tab k c) (h : ∀ g C, con g = some C → ConOK P tab g C) : ∀ g C, (bif Nat.beq g k then some c else con g) = some C → ConOK P tab g C := by
  intro g C hg
  cases hb : Nat.beq g k
  · rw [hb] at hg; exact h g C hg
  · rw [hb] at hg
    cases hg
    rw [Nat.eq_of_beq_eq_true hb]
    exact hc
theorem con_none {P : Program} {tab : Tab} : ∀ g C, (none : Option Con) = some C → ConOK P tab g C := fun _ _ h => by cases h
end Go.Sy

namespace Go.Sy
open Go.Am Go.RowKit
universe u v

/-! A closed run, cut into parts: each part ends at a state that is written out. -/
def subR (tab : Tab) (n : Nat) : FuncId → List AV → AH → R (List (AV × AH)) := fun f args h => match tab.fns.get f with
  | some fn => match fn.body with
    | some body => run tab n { fr := AFrame.enter fn f body args .normal, cs := [], h }
    | none => .no "run: body"
  | none => .no "run: function"
def stepsK (tab : Tab) (n : Nat) : Nat → AM → R AM
  | 0, m => .ok m
  | k + 1, m => match Am.step tab (subR tab n) m with
    | .ok (.next m') => stepsK tab n k m'
    | _ => .no "stepsK"
/-- These blocks alone. -/
def keepT (h : AH) : List Nat → T AO
  | [] => .e
  | b :: l => (keepT h l).set b (h.get b)
def keepH (h : AH) (l : List Nat) : AH := { t := keepT h l, next := h.next }
def segR (tab : Tab) (n k : Nat) (l : List Nat) (m : AM) : R AM :=
  match stepsK tab n k m with
  | .ok ⟨fr, cs, h⟩ => .ok ⟨fr, cs, keepH h l⟩
  | .no w => .no w
/-- A part of a function's text. -/
def cAt : Code → List Nat → Code
  | c, [] => c
  | .seq a b, i :: l => bif Nat.beq i 0 then cAt a l else cAt b l
  | .cond _ a b, i :: l => bif Nat.beq i 0 then cAt a l else cAt b l
  | .block _ b, _ :: l => cAt b l
  | .loop b, _ :: l => cAt b l
  | .scope b, _ :: l => cAt b l
  | .rangeFunc _ _ a b, i :: l => bif Nat.beq i 0 then cAt a l else cAt b l
  | c, _ => c
def opsAt (c : Code) (l : List Nat) : Array Oper := match cAt c l with | .region _ ops _ => ops | _ => #[]

theorem keepT_get (h : AH) : ∀ (l : List Nat) (i : Nat) (o : AO), (keepT h l).get i = some o → h.get i = some o := by
  intro l
  induction l with
  | nil => intro i o hi; simp [keepT, T.get_e] at hi
  | cons b l ih =>
    intro i o hi
    simp only [keepT, T.get_set] at hi
    split at hi
    · rename_i e; subst e; exact hi
    · exact ih i o hi

section
variable {P : Program} {tab : Tab} (pr : PrOK P tab) {Ψ : AV → AH → Prop}
include pr
theorem AGo.next' {n : Nat} {m m' : AM} (hs : Am.step tab (subR tab n) m = .ok (.next m')) (h : AGo P m' Ψ) : AGo P m Ψ := by
  intro D E K base frC csC w hR
  have hsub : SubOK P tab (subR tab n) := sub_ok pr.ok pr.ext (fun sub hsub => draw_sound pr.ok hsub pr.ext pr.mix) n
  obtain ⟨hb, fr', cs', w', E', D', s1, s2, s3, s4, s5, s6, s7⟩ := step_sound pr.ok hsub pr.ext (draw_sound pr.ok hsub pr.ext pr.mix) hs hR
  obtain ⟨v, h', h1, h2⟩ := h D' E' K base fr' cs' w' s2
  rw [hb] at h2
  exact ⟨v, h', h1, Am.Ends.trans s1 s3 s4 s5 s6 s7 h2⟩
theorem AGo.steps {n : Nat} : ∀ {k : Nat} {m m' : AM}, stepsK tab n k m = .ok m' → AGo P m' Ψ → AGo P m Ψ := by
  intro k
  induction k with
  | zero => intro m m' hs h; cases hs; exact h
  | succ k ih =>
    intro m m' hs h
    simp only [stepsK] at hs
    split at hs
    · rename_i m1 h1
      exact AGo.next' pr h1 (ih hs h)
    · cases hs
omit pr in
theorem AGo.gc {fr : AFrame} {cs : List AFrame} {h : AH} {l : List Nat} (hg : AGo P ⟨fr, cs, keepH h l⟩ Ψ) : AGo P ⟨fr, cs, h⟩ Ψ := by
  intro D E K base frC csC w hR
  exact hg D E K base frC csC w ⟨fun E' he => ⟨(hR.all E' he).1.same (fun i o hi => keepT_get h l i o hi) (Nat.le_refl _), (hR.all E' he).2⟩, hR.dom, hR.wf⟩
/-- A part of the run. -/
theorem AGo.seg {n k : Nat} {l : List Nat} {m m' : AM} (hs : segR tab n k l m = .ok m') (h : AGo P m' Ψ) : AGo P m Ψ := by
  unfold segR at hs
  split at hs
  · rename_i fr cs hh h1
    cases hs
    exact AGo.steps pr h1 (AGo.gc h)
  · cases hs
/-- The last part. -/
theorem AGo.last {n : Nat} {m : AM} (hr : allTrue (Am.run tab n m) = true) : AGo P m (fun v _ => v = .bool true) := by
  obtain ⟨outs, ho, ht⟩ := allTrue_ok hr
  exact (AGo.run pr ho).mono fun v h' hm => ht v h' hm
theorem AGo.calls {f : FuncId} {fn : Func} {body : Code} {avs : List AV} {argsC : Array Value} {w : World} (hfn : tab.fns.get f = some fn) (hb : fn.body = some body) (hg : AGo P { fr := AFrame.enter fn f body avs .normal, cs := [], h := emptyH } (fun v _ => v = .bool true))
    (hargs : ∀ E, (concL E avs).toArray = argsC) : Calls P f argsC w (fun e w' => e = .returned (.bool true) ∧ Below w.heap.size w w') := by
  intro cs
  have hP := pr.ok.fns f fn hfn
  let E : Env := ⟨fun _ => 0, fun _ => 0⟩
  let D : Nat → Prop := fun _ => False
  have hR : Rel D E (KS.old w.heap.size) { fr := AFrame.enter fn f body avs .normal, cs := [], h := emptyH } cs (Frame.enter P f argsC .normal) cs w := by
    refine ⟨fun E' _ => ⟨empty_ok E' _ w (fun b h => h) (fun b h => h), ?_, rfl⟩, fun i h => h.elim, enter_wf _ _ _ _ _, fun f hf => by cases hf⟩
    rw [← hargs E', enter_conc hP hb]
  obtain ⟨v, h', rfl, fr', w', v', E', D', s1, s2, s3, s4, s5, s6, s7, s8, s9, s10⟩ := hg D E _ cs _ cs w hR
  obtain ⟨_, g2⟩ := s4 E' (Agree.refl _ _)
  subst g2
  exact ⟨.returned (.bool true), w', fr', ⟨rfl, s8.os, s8.tape, s8.output, s8.size, s8.block⟩, s1, s2, s3⟩
end
end Go.Sy

namespace Go.Sy
open Go.Am Go.RowKit
universe u v

/-! Closed runs with plain calls that are promised, wherever they stand. -/
def liftC (con : FuncId → List AV → Option AV) : FuncId → List AV → AH → Option (List (AV × AH)) := fun f args h => match con f args with | some v => some [(v, h)] | none => none
def runC (tab : Tab) (con : FuncId → List AV → Option AV) : Nat → AM → R (AV × AH)
  | 0, _ => .no "fuel"
  | n + 1, m =>
    match step2 tab (liftC con) (fun f args h => match con f args with
        | some v => .ok [(v, h)]
        | none => match tab.fns.get f with
          | some fn => match fn.body with
            | some body => match runC tab con n { fr := AFrame.enter fn f body args .normal, cs := [], h } with
              | .ok x => .ok [x]
              | .no w => .no w
            | none => .no "run: body"
          | none => .no "run: function") m with
    | .ok (.done v h) => .ok (v, h)
    | .ok (.next m') => runC tab con n m'
    | .ok (.alts [m']) => bif (madeAt m).all fun x => (con x.1 x.2).isSome then runC tab con n m' else .no "runC: made"
    | _ => .no "runC"
def subC (tab : Tab) (con : FuncId → List AV → Option AV) (n : Nat) : FuncId → List AV → AH → R (List (AV × AH)) := fun f args h => match con f args with
  | some v => .ok [(v, h)]
  | none => match tab.fns.get f with
    | some fn => match fn.body with
      | some body => match runC tab con n { fr := AFrame.enter fn f body args .normal, cs := [], h } with
        | .ok x => .ok [x]
        | .no w => .no w
      | none => .no "run: body"
    | none => .no "run: function"
/-- One step. -/
def stepC (tab : Tab) (con : FuncId → List AV → Option AV) (n : Nat) (m : AM) : R AOut :=
  match step2 tab (liftC con) (subC tab con n) m with
  | .ok (.done v h) => .ok (.done v h)
  | .ok (.next m') => .ok (.next m')
  | .ok (.alts [m']) => bif (madeAt m).all fun x => (con x.1 x.2).isSome then .ok (.next m') else .no "runC: made"
  | _ => .no "runC"
def stepsC (tab : Tab) (con : FuncId → List AV → Option AV) (n : Nat) : Nat → AM → R AM
  | 0, m => .ok m
  | k + 1, m => match stepC tab con n m with
    | .ok (.next m') => stepsC tab con n k m'
    | _ => .no "stepsC"
def segC (tab : Tab) (con : FuncId → List AV → Option AV) (n k : Nat) (l : List Nat) (m : AM) : R AM :=
  match stepsC tab con n k m with
  | .ok ⟨fr, cs, h⟩ => .ok ⟨fr, cs, keepH h l⟩
  | .no w => .no w
def isTrueR : R (AV × AH) → Bool
  | .ok (.bool b, _) => b
  | _ => false

/-- What is promised of a plain call: wherever it is called it answers so, and leaves all as it was. -/
def PlainOK (P : Program) (f : FuncId) (args : List AV) (v : AV) : Prop :=
  (∀ E E', concL E args = concL E' args) ∧ (∀ E E', conc E v = conc E' v) ∧ ∀ (w : World) (E : Env), Calls P f (concL E args).toArray w (fun e w' => e = .returned (conc E v) ∧ Below w.heap.size w w')

section
variable {P : Program} {tab : Tab}
theorem PlainOK.ends {f : FuncId} {args : List AV} {v : AV} (hp : PlainOK P f args v) {h : AH} {D : Nat → Prop} {E : Env} {K : KS} {w : World} {argsC : Array Value} (ha : ∀ E', Agree D E E' → HOK E' h K w ∧ (concL E' args).toArray = argsC) (hdom : ∀ i, D i → i < h.next) (cs : List Frame) :
    Am.Ends P h.next (lone (Frame.enter P f argsC .normal) cs w) D E K v h cs f w := by
  obtain ⟨h1, h2, h3⟩ := hp
  have e1 := (ha E (Agree.refl _ _)).2
  subst e1
  obtain ⟨e, w', fr, ⟨rfl, hb⟩, s1, s2, s3⟩ := h3 w E cs
  have hk := (ha E (Agree.refl _ _)).1.kb
  refine ⟨fr, w', _, E, D, s1, s2, s3, fun E'' he => ⟨?_, h2 _ _⟩, Agree.refl _ _, fun i hi => hi, hdom, ⟨hb.os, hb.tape, hb.output, hb.size, fun b hb' => hb.block b (hk b hb')⟩, Nat.le_refl _, fun i hi => .inl hi⟩
  have H := (ha E'' he).1
  refine ⟨fun i o hi => ?_, H.nk, H.inj, H.dom, fun b hb' => Nat.lt_of_lt_of_le (H.kb b hb') hb.size, H.im, H.k0⟩
  obtain ⟨c, g1, g2⟩ := H.obj i o hi
  exact ⟨c, by rw [hb.block _ (Array.getElem?_eq_some_iff.1 g1).1]; exact g1, g2⟩
theorem PlainOK.at {con : FuncId → List AV → Option AV} {I : World → Prop} {K : KS} {x : FuncId × List AV} {v : AV} (hc : con x.1 x.2 = some v) (hp : PlainOK P x.1 x.2 v) : ConAt P tab (liftC con) I K x := by
  intro fn body h outs _ _ ho D E w argsC _ ha hdom cs
  unfold liftC at ho
  rw [hc] at ho
  cases ho
  exact ⟨v, h, List.mem_cons_self, hp.ends ha hdom cs⟩
variable (pr : PrOK P tab) {con : FuncId → List AV → Option AV} (hcon : ∀ f args v, con f args = some v → PlainOK P f args v)
include pr hcon
theorem stepC_of {sub : FuncId → List AV → AH → R (List (AV × AH))} (hsub : SubOK P tab sub) {m : AM} {Ψ : AV → AH → Prop} {out : AOut} (hs : step2 tab (liftC con) sub m = .ok out)
    (hm : ∀ l, out = .alts l → ((madeAt m).all fun x => (con x.1 x.2).isSome) = true) (hd : ∀ v h, out = .done v h → Ψ v h) (hn : ∀ m', (out = .next m' ∨ out = .alts [m']) → AGo P m' Ψ) (ha : ∀ l, out = .alts l → ∃ m', l = [m']) : AGo P m Ψ := by
  intro D E K base frC csC w hR
  have ho := step2_sound3 (I := fun _ => True) pr.ok hsub pr.ext (draw_sound pr.ok hsub pr.ext pr.mix) (con := liftC con) (out := out) (fun l hl x hx => by
    have := List.all_eq_true.1 (hm l hl) x hx
    cases hc : con x.1 x.2 with
    | none => rw [hc] at this; cases this
    | some v => exact PlainOK.at hc (hcon _ _ _ hc)) trivial hs hR
  have fin : ∀ m', bot m'.fr m'.cs = bot m.fr m.cs → Gets P m.h.next (lone frC csC w) D E K m' base w → AGo P m' Ψ → ∃ v h', Ψ v h' ∧ Am.Ends P m.h.next (lone frC csC w) D E K v h' base (bot m.fr m.cs) w := by
    intro m' hb hg h
    obtain ⟨fr', cs', w', E', D', s1, s2, s3, s4, s5, s6, s7⟩ := hg
    obtain ⟨v, h', h1, h2⟩ := h D' E' K base fr' cs' w' s2
    rw [hb] at h2
    exact ⟨v, h', h1, Am.Ends.trans s1 s3 s4 s5 s6 s7 h2⟩
  cases out with
  | done v h => exact ⟨v, h, hd v h rfl, ho⟩
  | next m' => exact fin m' ho.1 ho.2 (hn m' (.inl rfl))
  | alts l =>
    obtain ⟨m1, rfl⟩ := ha l rfl
    obtain ⟨m', hm', h1, h2⟩ := ho
    rw [List.mem_singleton] at hm'
    subst hm'
    exact fin m' h1 h2 (hn m' (.inr rfl))
theorem runC_ok : ∀ (n : Nat), (∀ m x, runC tab con n m = .ok x → AGo P m (fun v h => v = x.1 ∧ h = x.2)) := by
  intro n
  induction n with
  | zero => intro m x h; simp only [runC] at h; cases h
  | succ n ih =>
    intro m x h
    have hsub : SubOK P tab (subC tab con n) := by
      intro f fn body args hh outs hfn hb ho D E K w argsC hargs hdom cs
      unfold subC at ho
      split at ho
      · rename_i v hv
        cases ho
        exact ⟨v, hh, List.mem_cons_self, (hcon f args v hv).ends hargs hdom cs⟩
      · rw [hfn] at ho
        simp only [hb] at ho
        split at ho
        · rename_i y hy
          cases ho
          have hP := pr.ok.fns f fn hfn
          have hR : Rel D E K { fr := AFrame.enter fn f body args .normal, cs := [], h := hh } cs (Frame.enter P f argsC .normal) cs w := by
            refine ⟨fun E' he => ?_, hdom, enter_wf _ _ _ _ _, fun f hf => by cases hf⟩
            obtain ⟨h1, h2⟩ := hargs E' he
            refine ⟨h1, ?_, rfl⟩
            rw [← h2, enter_conc hP hb]
          obtain ⟨v, h', ⟨rfl, rfl⟩, he⟩ := ih _ y hy D E K cs _ cs w hR
          exact ⟨y.1, y.2, List.mem_cons_self, he⟩
        · cases ho
    simp only [runC] at h
    change (match step2 tab (liftC con) (subC tab con n) m with
      | .ok (.done v h) => .ok (v, h)
      | .ok (.next m') => runC tab con n m'
      | .ok (.alts [m']) => bif (madeAt m).all fun x => (con x.1 x.2).isSome then runC tab con n m' else .no "runC: made"
      | _ => .no "runC") = R.ok x at h
    split at h
    · rename_i v hh hs
      cases h
      exact stepC_of pr hcon hsub hs (fun l e => by cases e) (fun v' h' e => by cases e; exact ⟨rfl, rfl⟩) (fun m' e => by rcases e with e | e <;> cases e) (fun l e => by cases e)
    · rename_i m' hs
      exact stepC_of pr hcon hsub hs (fun l e => by cases e) (fun v' h' e => by cases e) (fun m1 e => by rcases e with e | e <;> cases e; exact ih _ x h) (fun l e => by cases e)
    · rename_i m' hs
      cases hc : (madeAt m).all fun x => (con x.1 x.2).isSome
      · rw [hc] at h; cases h
      · rw [hc] at h
        simp only [cond_true] at h
        exact stepC_of pr hcon hsub hs (fun l e => hc) (fun v' h' e => by cases e) (fun m1 e => by rcases e with e | e <;> cases e; exact ih _ x h) (fun l e => by cases e; exact ⟨_, rfl⟩)
    · cases h
theorem subC_ok (n : Nat) : SubOK P tab (subC tab con n) := by
  intro f fn body args hh outs hfn hb ho D E K w argsC hargs hdom cs
  unfold subC at ho
  split at ho
  · rename_i v hv
    cases ho
    exact ⟨v, hh, List.mem_cons_self, (hcon f args v hv).ends hargs hdom cs⟩
  · rw [hfn] at ho
    simp only [hb] at ho
    split at ho
    · rename_i y hy
      cases ho
      have hP := pr.ok.fns f fn hfn
      have hR : Rel D E K { fr := AFrame.enter fn f body args .normal, cs := [], h := hh } cs (Frame.enter P f argsC .normal) cs w := by
        refine ⟨fun E' he => ?_, hdom, enter_wf _ _ _ _ _, fun f hf => by cases hf⟩
        obtain ⟨h1, h2⟩ := hargs E' he
        refine ⟨h1, ?_, rfl⟩
        rw [← h2, enter_conc hP hb]
      obtain ⟨v, h', ⟨rfl, rfl⟩, he⟩ := runC_ok pr hcon n _ y hy D E K cs _ cs w hR
      exact ⟨y.1, y.2, List.mem_cons_self, he⟩
    · cases ho
theorem AGo.stepsC {n : Nat} {Ψ : AV → AH → Prop} : ∀ {k : Nat} {m m' : AM}, stepsC tab con n k m = .ok m' → AGo P m' Ψ → AGo P m Ψ := by
  intro k
  induction k with
  | zero => intro m m' hs h; cases hs; exact h
  | succ k ih =>
    intro m m' hs h
    simp only [Go.Sy.stepsC] at hs
    split at hs
    · rename_i m1 h1
      unfold stepC at h1
      split at h1
      · cases h1
      · rename_i m2 h2
        cases h1
        exact stepC_of pr hcon (subC_ok pr hcon n) h2 (fun l e => by cases e) (fun v' h' e => by cases e) (fun m1 e => by rcases e with e | e <;> cases e; exact ih hs h) (fun l e => by cases e)
      · rename_i m2 h2
        cases hc : (madeAt m).all fun x => (con x.1 x.2).isSome
        · rw [hc] at h1; cases h1
        · rw [hc] at h1
          cases h1
          exact stepC_of pr hcon (subC_ok pr hcon n) h2 (fun l e => hc) (fun v' h' e => by cases e) (fun m1 e => by rcases e with e | e <;> cases e; exact ih hs h) (fun l e => by cases e; exact ⟨_, rfl⟩)
      · cases h1
    · cases hs
theorem AGo.segC {n k : Nat} {l : List Nat} {m m' : AM} {Ψ : AV → AH → Prop} (hs : segC tab con n k l m = .ok m') (h : AGo P m' Ψ) : AGo P m Ψ := by
  unfold Go.Sy.segC at hs
  split at hs
  · rename_i fr cs hh h1
    cases hs
    exact AGo.stepsC pr hcon h1 (AGo.gc h)
  · cases hs
theorem AGo.lastC {n : Nat} {m : AM} (hr : isTrueR (runC tab con n m) = true) : AGo P m (fun v _ => v = .bool true) := by
  unfold isTrueR at hr
  split at hr
  · rename_i b h e
    subst hr
    exact (runC_ok pr hcon n m _ e).mono fun v h' hv => hv.1
  · cases hr
end
end Go.Sy
namespace Go.Sy
open Go.Am Go.RowKit
def isValR (r : R (AV × AH)) (v : AV) : Bool := match r with
  | .ok (u, _) => AV.beq u v
  | _ => false
section
variable {P : Program} {tab : Tab} (pr : PrOK P tab) {con : FuncId → List AV → Option AV} (hcon : ∀ f args v, con f args = some v → PlainOK P f args v)
include pr hcon
/-- A plain call, by its run. -/
theorem PlainOK.of {f : FuncId} {fn : Func} {body : Code} {args : List AV} {v : AV} {n : Nat} (hfn : tab.fns.get f = some fn) (hb : fn.body = some body) (ha : ∀ E E', concL E args = concL E' args) (hv : ∀ E E', conc E v = conc E' v)
    (hr : isValR (runC tab con n { fr := AFrame.enter fn f body args .normal, cs := [], h := emptyH }) v = true) : PlainOK P f args v := by
  refine ⟨ha, hv, fun w E0 cs => ?_⟩
  have hg : AGo P { fr := AFrame.enter fn f body args .normal, cs := [], h := emptyH } (fun u _ => u = v) := by
    unfold isValR at hr
    split at hr
    · rename_i u h e
      exact (runC_ok pr hcon n _ _ e).mono fun v' h' hv' => hv'.1.trans (AV.beq_eq _ _ hr)
    · cases hr
  have hP := pr.ok.fns f fn hfn
  let E : Env := ⟨fun _ => 0, fun _ => 0⟩
  let D : Nat → Prop := fun _ => False
  have hR : Rel D E (KS.old w.heap.size) { fr := AFrame.enter fn f body args .normal, cs := [], h := emptyH } cs (Frame.enter P f (concL E0 args).toArray .normal) cs w := by
    refine ⟨fun E' _ => ⟨empty_ok E' _ w (fun b h => h) (fun b h => h), ?_, rfl⟩, fun i h => h.elim, enter_wf _ _ _ _ _, fun f hf => by cases hf⟩
    rw [ha E0 E', enter_conc hP hb]
  obtain ⟨v', h', rfl, fr', w', v1, E', D', s1, s2, s3, s4, s5, s6, s7, s8, s9, s10⟩ := hg D E _ cs _ cs w hR
  obtain ⟨_, g2⟩ := s4 E' (Agree.refl _ _)
  subst g2
  exact ⟨.returned (conc E' v'), w', fr', ⟨by rw [hv E' E0], s8.os, s8.tape, s8.output, s8.size, s8.block⟩, s1, s2, s3⟩
end
/-- A table of promises: one ahead of the others. -/
theorem plain_step {P : Program} {con : FuncId → List AV → Option AV} {k : FuncId} {l : List AV} {u : AV} (hp : PlainOK P k l u) (h : ∀ f args v, con f args = some v → PlainOK P f args v) : ∀ f args v, (bif Nat.beq f k && AV.beqL args l then some u else con f args) = some v → PlainOK P f args v := by
  intro f args v hv
  cases hb : (Nat.beq f k && AV.beqL args l)
  · rw [hb] at hv; exact h f args v hv
  · rw [hb] at hv
    cases hv
    simp only [Bool.and_eq_true] at hb
    have h1 := Nat.eq_of_beq_eq_true hb.1
    have h2 := AV.beqL_eq _ _ hb.2
    subst h1 h2
    exact hp
theorem plain_none {P : Program} : ∀ (f : FuncId) (args : List AV) (v : AV), (none : Option AV) = some v → PlainOK P f args v := fun _ _ _ h => by cases h
end Go.Sy

