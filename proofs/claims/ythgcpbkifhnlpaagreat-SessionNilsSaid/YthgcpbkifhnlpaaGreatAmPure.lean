/- An evaluator over abstract values, proved sound over the model's machine; no condition. Part: Pure. -/
import Derived.Test.YthgcpbkifhnlpaaGreatAmOps9
set_option linter.unusedSimpArgs false
set_option linter.unusedVariables false
set_option linter.unusedSectionVars false
set_option linter.deprecated false
namespace Go.Am
open Go.RowKit

section
variable {P : Program} {tab : Tab} (ok : TabOK P tab) {E : Env} {h : AH} {K : Nat → Prop} {w : World}

theorem ofV {ρ : Operand → Value} {o : Oper} {s : Sem Value} {a : Value} {w w' : World} (hx : execOp ρ o = (do pure (.value (← s)))) (hs : s.run P w = .ok a w') :
    (execOp ρ o).run P w = .ok (.value a) w' := by
  rw [hx]; simp [hs]
theorem ofU {ρ : Operand → Value} {o : Oper} {s : Sem Unit} {w w' : World} (hx : execOp ρ o = (do s; pure .skip)) (hs : s.run P w = .ok () w') :
    (execOp ρ o).run P w = .ok .skip w' := by
  rw [hx]; simp [hs]

/-- What an operation does, from the world w under ρ, told at the abstract heap h. -/
def Does (P : Program) (s : Sem Next) (E : Env) (K : Nat → Prop) (w : World) (v : AV) (h' : AH) : Prop :=
  ∃ r w', s.run P w = .ok r w' ∧ Yields r (conc E v) ∧ HOK E h' K w' ∧ Kept K w w'

theorem Does.value {s : Sem Next} {v : AV} {h' : AH} {w' : World} (hs : s.run P w = .ok (.value (conc E v)) w') (H : HOK E h' K w') (hk : Kept K w w') : Does P s E K w v h' :=
  ⟨_, w', hs, .inl rfl, H, hk⟩
theorem Does.same {s : Sem Next} {v : AV} (H : HOK E h K w) (hs : s.run P w = .ok (.value (conc E v)) w) : Does P s E K w v h :=
  ⟨_, w, hs, .inl rfl, H, Kept.refl K w⟩
theorem Does.unit {s : Sem Next} {h' : AH} {w' : World} (hs : s.run P w = .ok .skip w') (H : HOK E h' K w') (hk : Kept K w w') : Does P s E K w (.tup []) h' :=
  ⟨_, w', hs, .inr ⟨rfl, rfl⟩, H, hk⟩

theorem fieldOf_ok (ok : TabOK P tab) {t : TypeId} {f : Nat} {fd : Field} (hf : fieldOf tab t f = .ok fd) : ∃ fs, P.underlying t = some (.struct fs) ∧ fs[f]? = some fd := by
  unfold fieldOf at hf
  obtain ⟨d, hd, hf⟩ := R.bind_ok.1 hf
  have hP := ok.und t d (R.of_ok.1 hd)
  split at hf
  · exact ⟨_, hP, R.of_ok.1 hf⟩
  · cases hf

theorem ba_get {s : List UInt8} {i : Nat} {b : UInt8} (h : s[i]? = some b) : (⟨s.toArray⟩ : ByteArray)[i]? = some b := by
  obtain ⟨hlt, rfl⟩ := List.getElem?_eq_some_iff.1 h
  exact getElem?_pos (⟨s.toArray⟩ : ByteArray) i (show i < (⟨s.toArray⟩ : ByteArray).size from hlt)

/-- What the operation's new block is, if it makes one. -/
def Good (P : Program) (o : Oper) (ts : T AV) (h : AH) (v : AV) (h' : AH) (w : World) (ρ : Operand → Value) : Prop :=
  ∃ f : Nat × Nat, ∀ E K, HOK E h K w → (∀ x u, ev ts x = .ok u → ρ x = conc E u) →
      (h.next < h'.next → E.blk h.next = f.1 ∧ E.cap h.next = f.2) → (h.next ≤ h'.next ∧ h'.next ≤ h.next + 1) ∧ Does P (execOp ρ o) E K w v h'

theorem newRow_lt {e : TypeId} {cs : List AV} {ext : Bool} {bk : BK} {h' : AH} {b : Nat} (hn : newRow tab h e cs ext bk = .ok (h', b)) : h.next < h'.next := by
  obtain ⟨n, hs, rfl, rfl⟩ := newRow_ok hn
  simp
theorem buildSlice_lt {t : TypeId} {len : Nat} {ps : List (Nat × AV)} {v : AV} {h' : AH} (hb : buildSlice tab h t len ps = .ok (v, h')) : h.next < h'.next := by
  unfold buildSlice at hb
  obtain ⟨u, hu, hb1⟩ := R.bind_ok.1 hb
  split at hb1
  · obtain ⟨n, _, hb2⟩ := R.bind_ok.1 hb1
    obtain ⟨_, _, hb3⟩ := R.bind_ok.1 hb2
    obtain ⟨_, _, hb4⟩ := R.bind_ok.1 hb3
    obtain ⟨_, _, hb5⟩ := R.bind_ok.1 hb4
    obtain ⟨_, _, hb6⟩ := R.bind_ok.1 hb5
    obtain ⟨_, _, hb7⟩ := R.bind_ok.1 hb6
    obtain ⟨⟨h1, b⟩, hn, hb8⟩ := R.bind_ok.1 hb7
    cases hb8
    exact newRow_lt hn
  · cases hb1
theorem makeSlice_lt {t : TypeId} {l c v : AV} {h' : AH} (hb : makeSlice tab h t l c = .ok (v, h')) : h.next < h'.next := by
  unfold makeSlice at hb
  obtain ⟨u, hu, hb1⟩ := R.bind_ok.1 hb
  split at hb1
  · obtain ⟨n, _, hb2⟩ := R.bind_ok.1 hb1
    obtain ⟨_, _, hb3⟩ := R.bind_ok.1 hb2
    obtain ⟨_, _, hb4⟩ := R.bind_ok.1 hb3
    obtain ⟨_, _, hb5⟩ := R.bind_ok.1 hb4
    obtain ⟨_, _, hb6⟩ := R.bind_ok.1 hb5
    obtain ⟨_, _, hb7⟩ := R.bind_ok.1 hb6
    obtain ⟨_, _, hb8⟩ := R.bind_ok.1 hb7
    obtain ⟨_, _, hb9⟩ := R.bind_ok.1 hb8
    obtain ⟨⟨h1, b⟩, hn, hb10⟩ := R.bind_ok.1 hb9
    cases hb10
    exact newRow_lt hn
  · cases hb1
theorem rangeOp_lt {t : TypeId} {x v : AV} {h' : AH} (hb : rangeOp tab h t x = .ok (v, h')) : h.next < h'.next := by
  unfold rangeOp at hb
  obtain ⟨u, hu, hb1⟩ := R.bind_ok.1 hb
  split at hb1
  · cases hb1; simp
  · cases hb1; simp
  · obtain ⟨_, _, hb2⟩ := R.bind_ok.1 hb1
    cases hb2; simp
  · cases hb1

theorem newVar_does (ok : TabOK P tab) {e : TypeId} {z : AV} {zc : List AV} (hzc : z.cells = .ok zc) {h1 : AH} {b : Nat} (hn : newRow tab h e zc = .ok (h1, b)) (H : HOK E h K w) (hE : E.blk h.next = w.heap.size) :
    b = h.next ∧ h1.next = h.next + 1 ∧ (Go.newVar e (conc E z)).run P w = .ok ⟨E.blk h.next, 0, none⟩ (w.alloc (.cells (concL E zc).toArray e)) ∧ HOK E h1 K (w.alloc (.cells (concL E zc).toArray e)) ∧ Kept K w (w.alloc (.cells (concL E zc).toArray e)) := by
  obtain ⟨n, hs, rfl, rfl⟩ := newRow_ok hn
  refine ⟨rfl, rfl, ?_, (new_cells H hE zc e n).1, Kept.alloc H.kb _⟩
  rw [Go.newVar, run_newRow, cells_ok hzc, hE]

set_option maxHeartbeats 1000000 in
include ok in
/-- THE OPERATIONS. -/
theorem pureOp_sound {ts : T AV} {o : Oper} {v : AV} {h' : AH} (hp : pureOp tab ts h o = .ok (v, h')) (w : World) (ρ : Operand → Value) : Good P o ts h v h' w ρ := by
  unfold pureOp at hp
  cases hop : o.op <;> rw [hop] at hp <;> dsimp only at hp
  case move x =>
    obtain ⟨u, hu, hp1⟩ := R.bind_ok.1 hp
    cases hp1
    exact ⟨(0, 0), fun E K H hρ _ => ⟨by omega, Does.same H (by simp [execOp, hop, hρ _ _ hu])⟩⟩
  case assign x =>
    obtain ⟨u, hu, hp1⟩ := R.bind_ok.1 hp
    cases hp1
    exact ⟨(0, 0), fun E K H hρ _ => ⟨by omega, Does.same H (by simp [execOp, hop, hρ _ _ hu])⟩⟩
  case pick c a b =>
    obtain ⟨u, hu, hp1⟩ := R.bind_ok.1 hp
    refine ⟨(0, 0), fun E K H hρ _ => ?_⟩
    have hc := hρ _ _ hu
    split at hp1
    · obtain ⟨x, hx, hp2⟩ := R.bind_ok.1 hp1
      cases hp2
      exact ⟨by omega, Does.same H (by simp [execOp, hop, hρ _ _ hx, hc, conc, asBool])⟩
    · obtain ⟨x, hx, hp2⟩ := R.bind_ok.1 hp1
      cases hp2
      exact ⟨by omega, Does.same H (by simp [execOp, hop, hρ _ _ hx, hc, conc, asBool])⟩
    · cases hp1
  case alloc e =>
    obtain ⟨z, hz, hp1⟩ := R.bind_ok.1 hp
    obtain ⟨zc, hzc, hp2⟩ := R.bind_ok.1 hp1
    obtain ⟨⟨h1, b⟩, hn, hp3⟩ := R.bind_ok.1 hp2
    cases hp3
    refine ⟨(w.heap.size, 0), fun E K H hρ hE => ?_⟩
    have hE1 : E.blk h.next = w.heap.size := (hE (newRow_lt hn)).1
    obtain ⟨rfl, h2, h3, h4, h5⟩ := newVar_does ok hzc hn H hE1
    exact ⟨by simp only; omega, Does.value (ofV (s := Instr.alloc e true (.tuple #[])) (by simp [execOp, hop]) (by simp [Instr.alloc, zero_run ok hz E, h3, conc])) h4 h5⟩
  case box e x =>
    obtain ⟨z, hz, hp1⟩ := R.bind_ok.1 hp
    obtain ⟨zc, hzc, hp2⟩ := R.bind_ok.1 hp1
    obtain ⟨⟨h1, b⟩, hn, hp3⟩ := R.bind_ok.1 hp2
    cases hp3
    refine ⟨(w.heap.size, 0), fun E K H hρ hE => ?_⟩
    have hE1 : E.blk h.next = w.heap.size := (hE (newRow_lt hn)).1
    obtain ⟨rfl, h2, h3, h4, h5⟩ := newVar_does ok hzc hn H hE1
    exact ⟨by simp only; omega, Does.value (ofV (s := Instr.box e (ρ x)) (by simp [execOp, hop]) (by simp [Instr.box, hρ _ _ hz, h3, conc])) h4 h5⟩
  case build t ps =>
    obtain ⟨l, hl, hp1⟩ := R.bind_ok.1 hp
    obtain ⟨u, hu, hp2⟩ := R.bind_ok.1 hp1
    cases hp2
    refine ⟨(0, 0), fun E K H hρ _ => ⟨by omega, Does.same H ?_⟩⟩
    refine ofV (s := Instr.build t (ps.map fun (i, x) => (i, ρ x))) (by simp [execOp, hop]) ?_
    have := build_run ok (E := E) (w := w) hu
    rw [← evParts_run hρ _ _ hl] at this
    rw [← this]
    congr 2
    simp [← Array.toList_inj]
  case buildSlice t n ps =>
    obtain ⟨l, hl, hp1⟩ := R.bind_ok.1 hp
    refine ⟨(w.heap.size, 0), fun E K H hρ hE => ?_⟩
    obtain ⟨h1, w', h2, h3, h4⟩ := buildSlice_run ok H hp1 (hE (buildSlice_lt hp1)).1
    rw [← evParts_run hρ _ _ hl] at h2
    refine ⟨by omega, Does.value (ofV (s := Instr.buildSlice t n (ps.map fun (i, x) => (i, ρ x))) (by simp [execOp, hop]) ?_) h3 h4⟩
    rw [← h2]
    congr 2
    simp [← Array.toList_inj]
  case load t a =>
    obtain ⟨x, hx, hp1⟩ := R.bind_ok.1 hp
    split at hp1
    · obtain ⟨u, hu, hp2⟩ := R.bind_ok.1 hp1
      cases hp2
      refine ⟨(0, 0), fun E K H hρ _ => ⟨by omega, Does.same H ?_⟩⟩
      refine ofV (s := Instr.loadAt t (ρ a)) (by simp [execOp, hop]) ?_
      simp [Instr.loadAt, hρ _ _ hx, conc, Instr.sureAddr, loadVar_run ok H hu]
    · cases hp1
  case store t a x =>
    obtain ⟨y, hy, hp1⟩ := R.bind_ok.1 hp
    split at hp1
    · obtain ⟨u, hu, hp2⟩ := R.bind_ok.1 hp1
      obtain ⟨h1, hh, hp3⟩ := R.bind_ok.1 hp2
      cases hp3
      refine ⟨(0, 0), fun E K H hρ _ => ?_⟩
      obtain ⟨w', h2, h3, h4⟩ := storeVar_run ok H hh
      refine ⟨by have := storeVar_next (tab := tab) hh; omega, Does.unit (ofU (s := Instr.storeAt t (ρ a) (ρ x)) (by simp [execOp, hop]) ?_) h3 h4⟩
      simp [Instr.storeAt, hρ _ _ hy, hρ _ _ hu, conc, Instr.sureAddr, h2]
    · cases hp1
  case nilCheck x =>
    obtain ⟨y, hy, hp1⟩ := R.bind_ok.1 hp
    split at hp1
    · cases hp1
      exact ⟨(0, 0), fun E K H hρ _ => ⟨by omega, Does.same H (by simp [execOp, hop, hρ _ _ hy, conc])⟩⟩
    · cases hp1
      exact ⟨(0, 0), fun E K H hρ _ => ⟨by omega, Does.same H (by simp [execOp, hop, hρ _ _ hy, conc])⟩⟩
    · cases hp1
  case binOp op t x y yt =>
    obtain ⟨a, ha, hp1⟩ := R.bind_ok.1 hp
    obtain ⟨b, hb, hp2⟩ := R.bind_ok.1 hp1
    obtain ⟨c, hc, hp3⟩ := R.bind_ok.1 hp2
    cases hp3
    refine ⟨(0, 0), fun E K H hρ _ => ⟨by omega, Does.same H ?_⟩⟩
    have := binOp_run ok H hc x y
    refine ofV (s := do eqGuard op t x y (ρ x) (ρ y); Go.binOp op t (ρ x) (ρ y)) (by simp [execOp, hop]) ?_
    rw [hρ _ _ ha, hρ _ _ hb]
    exact this
  case unOp op t x =>
    obtain ⟨a, ha, hp1⟩ := R.bind_ok.1 hp
    obtain ⟨c, hc, hp3⟩ := R.bind_ok.1 hp1
    cases hp3
    refine ⟨(0, 0), fun E K H hρ _ => ⟨by omega, Does.same H ?_⟩⟩
    refine ofV (s := Op.unary op (ρ x)) (by simp [execOp, hop]) ?_
    rw [hρ _ _ ha]
    exact unOp_run hc
  case convert s d x =>
    obtain ⟨a, ha, hp1⟩ := R.bind_ok.1 hp
    refine ⟨(w.heap.size, grownCap w (strLen a) 0 (P.elem d)), fun E K H hρ hE => ?_⟩
    obtain ⟨h1, w', h2, h3, h4⟩ := convertAll_run ok H hp1 hE
    refine ⟨h1, Does.value (ofV (s := Go.convert s d (ρ x)) (by simp [execOp, hop]) ?_) h3 h4⟩
    rw [hρ _ _ ha]; exact h2
  case makeInterface t x =>
    obtain ⟨d, hd, hp1⟩ := R.bind_ok.1 hp
    have hP := ok.und t d (R.of_ok.1 hd)
    split at hp1
    · cases hp1
    · rename_i hni
      obtain ⟨a, ha, hp2⟩ := R.bind_ok.1 hp1
      cases hp2
      refine ⟨(0, 0), fun E K H hρ _ => ⟨by omega, Does.same H ?_⟩⟩
      refine ofV (s := Instr.makeInterface t (ρ x)) (by simp [execOp, hop]) ?_
      unfold Instr.makeInterface
      simp only [Sem.run_bind, underlying, run_program, Result.andThen_ok, hP, Sem.run_pure]
      cases d <;> first | exact absurd rfl (hni _) | (rw [hρ _ _ ha]; simp [conc])
  case makeFunc fn fst cap =>
    split at hp
    · rename_i f
      obtain ⟨a, ha, hp1⟩ := R.bind_ok.1 hp
      obtain ⟨b, hb, hp2⟩ := R.bind_ok.1 hp1
      cases hp2
      refine ⟨(0, 0), fun E K H hρ _ => ⟨by omega, Does.same H ?_⟩⟩
      refine ofV (s := Instr.makeFunc (.func f) (fst.map ρ) (cap.map ρ)) (by simp [execOp, hop]) ?_
      have h1 := evs_run hρ _ _ ha
      have h2 := evs_run hρ _ _ hb
      simp only [Instr.makeFunc, Sem.run_pure, conc, ← h1, ← h2]
      congr 3 <;> simp [← Array.toList_inj]
    · cases hp
  case makeMap t r =>
    cases r with
    | some x => cases hp
    | none =>
      cases hp
      refine ⟨(w.heap.size, 0), fun E K H hρ hE => ⟨by simp, ?_⟩⟩
      refine Does.value (w' := w.alloc (.map #[] 0)) (ofV (s := Instr.makeMap t none) (by simp [execOp, hop]) ?_) (H.new (hE (by simp)).1 (by simp [OOK])) (Kept.alloc H.kb _)
      simp [Instr.makeMap, conc, (hE (by simp)).1]
  case makeSlice t l c =>
    obtain ⟨a, ha, hp1⟩ := R.bind_ok.1 hp
    obtain ⟨b, hb, hp2⟩ := R.bind_ok.1 hp1
    refine ⟨(w.heap.size, 0), fun E K H hρ hE => ?_⟩
    obtain ⟨h1, w', h2, h3, h4⟩ := makeSlice_run ok H hp2 (hE (makeSlice_lt hp2)).1
    refine ⟨by omega, Does.value (ofV (s := Instr.makeSlice t (ρ l) (ρ c)) (by simp [execOp, hop]) ?_) h3 h4⟩
    rw [hρ _ _ ha, hρ _ _ hb]; exact h2
  case slice t x lo hi mx =>
    obtain ⟨a, ha, hp1⟩ := R.bind_ok.1 hp
    refine ⟨(0, 0), fun E K H hρ hE => ?_⟩
    obtain ⟨rfl, h2⟩ := sliceOp_run ok H hρ hp1
    refine ⟨by omega, Does.same H (ofV (s := Instr.sliceAt t (ρ x) (lo.map ρ) (hi.map ρ) (mx.map ρ)) (by simp [execOp, hop]) ?_)⟩
    rw [hρ _ _ ha]; exact h2
  case fieldAddr st x f =>
    obtain ⟨fd, hf, hp1⟩ := R.bind_ok.1 hp
    obtain ⟨n, hn, hp2⟩ := R.bind_ok.1 hp1
    obtain ⟨_, hck, hp3⟩ := R.bind_ok.1 hp2
    obtain ⟨a, ha, hp4⟩ := R.bind_ok.1 hp3
    obtain ⟨fs, hP, hfd⟩ := fieldOf_ok ok hf
    have hn0 : n ≠ 0 := by
      intro e; subst e; simp [R.check] at hck
    split at hp4
    · cases hp4
      refine ⟨(0, 0), fun E K H hρ _ => ⟨by omega, Does.same H ?_⟩⟩
      refine ofV (s := Instr.fieldAt st (ρ x) f) (by simp [execOp, hop]) ?_
      unfold Instr.fieldAt
      simp [underlying, hP, hfd, hρ _ _ ha, conc, Instr.sureAddr, fieldPlace, siz_run ok hn, hn0, add_lit]
    · cases hp4
  case field t x f =>
    obtain ⟨fd, hf, hp1⟩ := R.bind_ok.1 hp
    obtain ⟨a, ha, hp2⟩ := R.bind_ok.1 hp1
    obtain ⟨fs, hP, hfd⟩ := fieldOf_ok ok hf
    split at hp2
    · obtain ⟨u, hu, hp3⟩ := R.bind_ok.1 hp2
      cases hp3
      refine ⟨(0, 0), fun E K H hρ _ => ⟨by omega, Does.same H ?_⟩⟩
      refine ofV (s := Instr.field t (ρ x) f) (by simp [execOp, hop]) ?_
      unfold Instr.field
      simp [underlying, hP, hfd, hρ _ _ ha, conc, asAgg, part_run ok hu E w]
    · cases hp2
  case indexAddr t x ix =>
    obtain ⟨y, hy, hp0⟩ := R.bind_ok.1 hp
    obtain ⟨i, hi, hp1⟩ := R.bind_ok.1 hp0
    obtain ⟨d, hd, hp2⟩ := R.bind_ok.1 hp1
    obtain ⟨a, ha, hp3⟩ := R.bind_ok.1 hp2
    have hP := ok.und t d (R.of_ok.1 hd)
    obtain ⟨k, rfl⟩ := asNat_ok hi
    split at hp3
    · obtain ⟨_, hck, hp4⟩ := R.bind_ok.1 hp3
      obtain ⟨n, hn, hp5⟩ := R.bind_ok.1 hp4
      cases hp5
      have hlt := R.check_ok.1 hck
      simp only [Nat.blt_eq] at hlt
      refine ⟨(0, 0), fun E K H hρ _ => ⟨by omega, Does.same H ?_⟩⟩
      refine ofV (s := Instr.indexAt t (ρ x) (ρ ix)) (by simp [execOp, hop]) ?_
      unfold Instr.indexAt
      simp [underlying, hP, hρ _ _ ha, hρ _ _ hy, conc, Go.asIntOf, Instr.sureAddr, siz_run ok hn, hlt, add_lit]
    · obtain ⟨_, hck, hp4⟩ := R.bind_ok.1 hp3
      obtain ⟨n, hn, hp5⟩ := R.bind_ok.1 hp4
      cases hp5
      have hlt := R.check_ok.1 hck
      simp only [Nat.blt_eq] at hlt
      refine ⟨(0, 0), fun E K H hρ _ => ⟨by omega, Does.same H ?_⟩⟩
      refine ofV (s := Instr.indexAt t (ρ x) (ρ ix)) (by simp [execOp, hop]) ?_
      unfold Instr.indexAt
      simp [underlying, hP, hρ _ _ ha, hρ _ _ hy, conc, Go.asIntOf, siz_run ok hn, hlt, add_lit]
    · cases hp3
  case index t x ix =>
    obtain ⟨y, hy, hp0⟩ := R.bind_ok.1 hp
    obtain ⟨i, hi, hp1⟩ := R.bind_ok.1 hp0
    obtain ⟨d, hd, hp2⟩ := R.bind_ok.1 hp1
    obtain ⟨a, ha, hp3⟩ := R.bind_ok.1 hp2
    have hP := ok.und t d (R.of_ok.1 hd)
    obtain ⟨k, rfl⟩ := asNat_ok hi
    split at hp3
    · obtain ⟨_, hck, hp4⟩ := R.bind_ok.1 hp3
      obtain ⟨n, hn, hp5⟩ := R.bind_ok.1 hp4
      obtain ⟨u, hu, hp6⟩ := R.bind_ok.1 hp5
      cases hp6
      have hlt := R.check_ok.1 hck
      simp only [Nat.blt_eq] at hlt
      refine ⟨(0, 0), fun E K H hρ _ => ⟨by omega, Does.same H ?_⟩⟩
      refine ofV (s := Instr.index t (ρ x) (ρ ix)) (by simp [execOp, hop]) ?_
      unfold Instr.index
      simp [underlying, hP, hρ _ _ ha, hρ _ _ hy, conc, Go.asIntOf, siz_run ok hn, hlt, part_run ok hu E w]
    · obtain ⟨b, hb, hp4⟩ := R.bind_ok.1 hp3
      cases hp4
      have hb := R.of_ok.1 hb
      refine ⟨(0, 0), fun E K H hρ _ => ⟨by omega, Does.same H ?_⟩⟩
      refine ofV (s := Instr.index t (ρ x) (ρ ix)) (by simp [execOp, hop]) ?_
      unfold Instr.index
      simp [underlying, hP, hρ _ _ ha, hρ _ _ hy, conc, Go.asIntOf]
      rw [ba_get hb]
      rfl
    · cases hp3
  case lookup t m k c =>
    obtain ⟨a, ha, hp1⟩ := R.bind_ok.1 hp
    obtain ⟨b, hb, hp2⟩ := R.bind_ok.1 hp1
    obtain ⟨u, hu, hp3⟩ := R.bind_ok.1 hp2
    cases hp3
    refine ⟨(0, 0), fun E K H hρ _ => ⟨by omega, Does.same H ?_⟩⟩
    refine ofV (s := Instr.lookup t (ρ m) (ρ k) c) (by simp [execOp, hop]) ?_
    rw [hρ _ _ ha, hρ _ _ hb]
    exact lookup_run ok H hu
  case mapUpdate t m k x =>
    obtain ⟨a, ha, hp1⟩ := R.bind_ok.1 hp
    obtain ⟨b, hb, hp2⟩ := R.bind_ok.1 hp1
    obtain ⟨c, hc, hp3⟩ := R.bind_ok.1 hp2
    obtain ⟨h1, hh, hp4⟩ := R.bind_ok.1 hp3
    cases hp4
    refine ⟨(0, 0), fun E K H hρ _ => ?_⟩
    obtain ⟨h2, w', h3, h4, h5⟩ := mapUpdate_run ok H hh
    refine ⟨by omega, Does.unit (ofU (s := Instr.mapUpdate t (ρ m) (ρ k) (ρ x)) (by simp [execOp, hop]) ?_) h4 h5⟩
    rw [hρ _ _ ha, hρ _ _ hb, hρ _ _ hc]; exact h3
  case insert t m k x =>
    obtain ⟨a, ha, hp1⟩ := R.bind_ok.1 hp
    obtain ⟨b, hb, hp2⟩ := R.bind_ok.1 hp1
    obtain ⟨c, hc, hp3⟩ := R.bind_ok.1 hp2
    obtain ⟨h1, hh, hp4⟩ := R.bind_ok.1 hp3
    cases hp4
    refine ⟨(0, 0), fun E K H hρ _ => ?_⟩
    obtain ⟨h2, w', h3, h4, h5⟩ := mapUpdate_run ok H hh
    refine ⟨by omega, Does.unit (ofU (s := Instr.mapUpdate t (ρ m) (ρ k) (ρ x)) (by simp [execOp, hop]) ?_) h4 h5⟩
    rw [hρ _ _ ha, hρ _ _ hb, hρ _ _ hc]; exact h3
  case mapEntry t m k =>
    obtain ⟨a, ha, hp1⟩ := R.bind_ok.1 hp
    obtain ⟨b, hb, hp2⟩ := R.bind_ok.1 hp1
    refine ⟨(0, 0), fun E K H hρ _ => ?_⟩
    obtain ⟨h2, w', h3, h4, h5⟩ := mapEntry_run ok H hp2
    refine ⟨by omega, Does.value (ofV (s := Instr.mapEntry t (ρ m) (ρ k)) (by simp [execOp, hop]) ?_) h4 h5⟩
    rw [hρ _ _ ha, hρ _ _ hb]; exact h3
  case entryStore t m s x =>
    obtain ⟨a, ha, hp1⟩ := R.bind_ok.1 hp
    obtain ⟨b, hb, hp2⟩ := R.bind_ok.1 hp1
    obtain ⟨c, hc, hp3⟩ := R.bind_ok.1 hp2
    obtain ⟨h1, hh, hp4⟩ := R.bind_ok.1 hp3
    cases hp4
    refine ⟨(0, 0), fun E K H hρ _ => ?_⟩
    obtain ⟨h2, w', h3, h4, h5⟩ := entryStore_run ok (t := t) H hh
    refine ⟨by omega, Does.unit (ofU (s := Instr.entryStore t (ρ m) (ρ s) (ρ x)) (by simp [execOp, hop]) ?_) h4 h5⟩
    rw [hρ _ _ ha, hρ _ _ hb, hρ _ _ hc]; exact h3
  case range t x =>
    obtain ⟨a, ha, hp1⟩ := R.bind_ok.1 hp
    refine ⟨(w.heap.size, 0), fun E K H hρ hE => ?_⟩
    obtain ⟨h2, w', h3, h4, h5⟩ := rangeOp_run ok H hp1 (hE (rangeOp_lt hp1)).1
    refine ⟨by omega, Does.value (ofV (s := Instr.range t (ρ x)) (by simp [execOp, hop]) ?_) h4 h5⟩
    rw [hρ _ _ ha]; exact h3
  case entry it =>
    obtain ⟨a, ha, hp1⟩ := R.bind_ok.1 hp
    obtain ⟨u, hu, hp2⟩ := R.bind_ok.1 hp1
    cases hp2
    refine ⟨(0, 0), fun E K H hρ _ => ⟨by omega, Does.same H ?_⟩⟩
    refine ofV (s := Instr.entry (ρ it)) (by simp [execOp, hop]) ?_
    rw [hρ _ _ ha]; exact entryOp_run H hu
  case typeAssert x xt t c =>
    obtain ⟨d, hd, hp1⟩ := R.bind_ok.1 hp
    obtain ⟨a, ha, hp2⟩ := R.bind_ok.1 hp1
    have hP := ok.und t d (R.of_ok.1 hd)
    have hx : execOp ρ o = (do pure (.value (← Instr.typeAssert (ρ x) xt t c))) := by simp [execOp, hop]
    split at hp2
    · cases hp2
    · rename_i u v' hni
      split at hp2
      · rename_i hut
        subst hut
        cases hp2
        refine ⟨(0, 0), fun E K H hρ _ => ⟨by omega, Does.same H (ofV hx ?_)⟩⟩
        unfold Instr.typeAssert
        rw [hρ _ _ ha]
        simp only [Sem.run_bind, underlying, run_program, Result.andThen_ok, hP, Sem.run_pure, conc]
        cases d <;> first | exact absurd rfl (hni _) | (cases c <;> simp [conc])
      · rename_i hut
        obtain ⟨_, hck, hp3⟩ := R.bind_ok.1 hp2
        obtain ⟨z, hz, hp4⟩ := R.bind_ok.1 hp3
        cases hp4
        have hc : c = true := R.check_ok.1 hck
        subst hc
        refine ⟨(0, 0), fun E K H hρ _ => ⟨by omega, Does.same H (ofV hx ?_)⟩⟩
        unfold Instr.typeAssert
        rw [hρ _ _ ha]
        simp only [Sem.run_bind, underlying, run_program, Result.andThen_ok, hP, Sem.run_pure, conc]
        cases d <;> first | exact absurd rfl (hni _) | (simp [conc, hut, zero_run ok hz E])
    · rename_i hni
      obtain ⟨_, hck, hp3⟩ := R.bind_ok.1 hp2
      obtain ⟨z, hz, hp4⟩ := R.bind_ok.1 hp3
      cases hp4
      have hc : c = true := R.check_ok.1 hck
      subst hc
      refine ⟨(0, 0), fun E K H hρ _ => ⟨by omega, Does.same H (ofV hx ?_)⟩⟩
      unfold Instr.typeAssert
      rw [hρ _ _ ha]
      simp only [Sem.run_bind, underlying, run_program, Result.andThen_ok, hP, Sem.run_pure, conc]
      cases d <;> first | exact absurd rfl (hni _) | (simp [conc, zero_run ok hz E])
    · cases hp2
  case extract t i =>
    obtain ⟨a, ha, hp1⟩ := R.bind_ok.1 hp
    split at hp1
    · obtain ⟨u, hu, hp2⟩ := R.bind_ok.1 hp1
      cases hp2
      have hu := R.of_ok.1 hu
      refine ⟨(0, 0), fun E K H hρ _ => ⟨by omega, Does.same H ?_⟩⟩
      refine ofV (s := Instr.extract (ρ t) i) (by simp [execOp, hop]) ?_
      rw [hρ _ _ ha]
      simp [Instr.extract, conc, concL_get, hu]
    · cases hp1
  case call c =>
    split at hp
    · rename_i b hb
      obtain ⟨l, hl, hp1⟩ := R.bind_ok.1 hp
      refine ⟨bnew P w b c.argTypes (((c.args.toList.map ρ)[0]?).getD undef) (srcLen l), fun E K H hρ hE => ?_⟩
      have hmap := evs_run hρ _ _ hl
      rw [hmap] at hE
      obtain ⟨h1, w', h2, h3, h4⟩ := builtin_run ok H hp1 hE o.type (c.args.map fun | .const _ => true | _ => false)
      refine ⟨h1, _, w', ?_, .inl rfl, h3, h4⟩
      rw [← h2, ← hmap]
      have : (c.args.toList.map ρ).toArray = c.args.map ρ := by simp [← Array.toList_inj]
      rw [this]
      simp [execOp, hop, resolve, hb, invoke]
      rfl
    · cases hp
  all_goals cases hp
end
end Go.Am
