/- An evaluator over abstract values, proved sound over the model's machine; no condition. Part: Mem. -/
import Derived.Test.YthgcpbkifhnlpaaGreatAmConc
set_option linter.unusedSimpArgs false
set_option linter.unusedVariables false
set_option linter.unusedSectionVars false
set_option linter.deprecated false
namespace Go.Am
open Go.RowKit

/-- A block that is not the run's own: there is none so far. -/
def AO.ro : AO → Prop := fun _ => False

def concT (E : Env) : AT → Target
  | .fn f captured => .fn f (concL E captured).toArray
  | .yld l => .fn (.yield (E.blk l)) #[]
  | .collected r => .collected (E.blk r)
def concD (E : Env) (d : AD) : Deferred := { target := concT E d.target, args := (concL E d.args).toArray }
def tmpAt (E : Env) (ts : T AV) (i : Nat) : Value := conc E ((ts.get i).getD (.tup []))
def concTmps (E : Env) (ts : T AV) (nt : Nat) : Array Value := ((List.range nt).map (tmpAt E ts)).toArray
def concE (E : Env) (x : AV × AV × Nat) : MapEntry := { key := conc E x.1, val := conc E x.2.1, born := x.2.2 }

def marks : BK → (Nat × Nat) → Nat → Prop
  | .rw, fz, _ => fz = (0, 0)
  | .mark, fz, n => fz = (n, n + 1)
  | .any, fz, n => fz = (0, 0) ∨ fz = (n, n + 1)
  | .ro, _, _ => True

/-- What an abstract block stands for. -/
def OOK (E : Env) (i : Nat) : AO → Obj → Prop
  | .cells cs e sz ext bk, o => ∃ arr fz, o = .cells arr e fz ∧ (∃ rest, arr.toList = concL E cs ++ rest) ∧
      (if ext then arr.size = E.cap i * sz else arr.size = cs.length) ∧ marks bk fz arr.size
  | .mp es c, o => o = .map (es.map (concE E)).toArray c
  | .miter m since seen st, o => o = .mapIter (m.map E.blk) since seen.toArray st
  | .siter s pos, o => o = .stringIter ⟨s.toArray⟩ pos
  | .loop st pending fn ts nt ps a b d, o => o = .loop { state := st, pending, fn, tmps := concTmps E ts nt, params := ps, assign := a, body := b, defers := E.blk d } ∧ ∀ t, nt ≤ t → ts.get t = none
  | .dfr calls, o => o = .deferred (calls.map (List.map (concD E)))

/-- The world is as the abstract heap says. -/
structure HOK (E : Env) (h : AH) (K : Nat → Prop) (w : World) : Prop where
  obj : ∀ i o, h.get i = some o → ∃ c, w.heap[E.blk i]? = some c ∧ OOK E i o c
  nk : ∀ i o, h.get i = some o → ¬ o.ro → ¬ K (E.blk i)
  inj : ∀ i j oi oj, h.get i = some oi → h.get j = some oj → ¬ oi.ro → E.blk i = E.blk j → i = j
  dom : ∀ i o, h.get i = some o → i < h.next
  kb : ∀ b, K b → b < w.heap.size

/-- What is kept. -/
structure Kept (K : Nat → Prop) (w w' : World) : Prop where
  os : w'.os = w.os
  tape : w'.tape = w.tape
  output : w'.output = w.output
  size : w.heap.size ≤ w'.heap.size
  block : ∀ b, K b → w'.heap[b]? = w.heap[b]?
theorem Kept.refl (K : Nat → Prop) (w : World) : Kept K w w := ⟨rfl, rfl, rfl, Nat.le_refl _, fun _ _ => rfl⟩
theorem Kept.trans {K : Nat → Prop} {a b c : World} (h : Kept K a b) (k : Kept K b c) : Kept K a c :=
  ⟨k.os.trans h.os, k.tape.trans h.tape, k.output.trans h.output, Nat.le_trans h.size k.size, fun i hi => (k.block i hi).trans (h.block i hi)⟩

theorem AH.get_set (h : AH) (b i : Nat) (o : AO) : (h.set b o).get i = if i = b then some o else h.get i := T.get_set _ _ _ _
theorem AH.get_new (h : AH) (i : Nat) (o : AO) : (h.new o).get i = if i = h.next then some o else h.get i := T.get_set _ _ _ _
theorem AH.get_kill (h : AH) (b i : Nat) : (h.kill b).get i = if i = b then none else h.get i := T.get_set _ _ _ _
@[simp] theorem AH.next_set (h : AH) (b : Nat) (o : AO) : (h.set b o).next = h.next := rfl
@[simp] theorem AH.next_new (h : AH) (o : AO) : (h.new o).next = h.next + 1 := rfl
@[simp] theorem AH.next_kill (h : AH) (b : Nat) : (h.kill b).next = h.next := rfl

theorem alloc_old (w : World) (o : Obj) {i : Nat} (h : i < w.heap.size) : (w.alloc o).heap[i]? = w.heap[i]? := by
  unfold World.alloc
  rw [Array.getElem?_push, if_neg (by omega)]
def _root_.Go.World.put (w : World) (g : Nat) (o : Obj) : World := { w with heap := w.heap.setIfInBounds g o }

theorem heap_put (w : World) (g i : Nat) (o : Obj) : (w.put g o).heap[i]? = if i = g then (if g < w.heap.size then some o else none) else w.heap[i]? := by
  unfold World.put
  rw [Array.getElem?_setIfInBounds]
  by_cases h : g = i
  · subst h; simp
  · rw [if_neg h, if_neg (Ne.symm h)]

section
variable {E : Env} {h : AH} {K : Nat → Prop} {w : World}

theorem HOK.lt (H : HOK E h K w) {i : Nat} {o : AO} (hi : h.get i = some o) : E.blk i < w.heap.size := by
  obtain ⟨c, hc, _⟩ := H.obj i o hi
  exact (Array.getElem?_eq_some_iff.1 hc).1

theorem HOK.drew (H : HOK E h K w) : HOK E h K w.drew := ⟨H.obj, H.nk, H.inj, H.dom, H.kb⟩
theorem Kept.drew (K : Nat → Prop) (w : World) : Kept K w w.drew := ⟨rfl, rfl, rfl, Nat.le_refl _, fun _ _ => rfl⟩

theorem HOK.new (H : HOK E h K w) {o : AO} {c : Obj} (hE : E.blk h.next = w.heap.size) (ho : OOK E h.next o c) : HOK E (h.new o) K (w.alloc c) := by
  have hnew : ∀ i o', (h.new o).get i = some o' → i ≠ h.next → h.get i = some o' := by
    intro i o' hi hne; rw [AH.get_new, if_neg hne] at hi; exact hi
  have hne : ∀ i o', h.get i = some o' → E.blk i ≠ E.blk h.next := by
    intro i o' hi e
    have := H.lt hi
    omega
  refine ⟨?_, ?_, ?_, ?_, ?_⟩
  · intro i o' hi
    by_cases e : i = h.next
    · subst e
      rw [AH.get_new, if_pos rfl] at hi
      cases hi
      exact ⟨c, by rw [hE]; exact heap_alloc_new w c, ho⟩
    · obtain ⟨c', hc', hk⟩ := H.obj i o' (hnew i o' hi e)
      exact ⟨c', (alloc_old w c (H.lt (hnew i o' hi e))).trans hc', hk⟩
  · intro i o' hi hr hK
    by_cases e : i = h.next
    · subst e
      have := H.kb _ hK
      omega
    · exact H.nk i o' (hnew i o' hi e) hr hK
  · intro i j oi oj hi hj hr e
    by_cases ei : i = h.next
    · by_cases ej : j = h.next
      · rw [ei, ej]
      · exact absurd (ei ▸ e.symm) (hne j oj (hnew j oj hj ej))
    · by_cases ej : j = h.next
      · exact absurd (ej ▸ e) (hne i oi (hnew i oi hi ei))
      · exact H.inj i j oi oj (hnew i oi hi ei) (hnew j oj hj ej) hr e
  · intro i o' hi
    by_cases e : i = h.next
    · subst e; simp
    · have := H.dom i o' (hnew i o' hi e); simp; omega
  · intro b hb
    have := H.kb b hb
    simp; omega
theorem Kept.alloc (hkb : ∀ b, K b → b < w.heap.size) (c : Obj) : Kept K w (w.alloc c) :=
  ⟨rfl, rfl, rfl, by simp, fun b hb => alloc_old w c (hkb b hb)⟩

theorem HOK.put (H : HOK E h K w) {b : Nat} {o o' : AO} {c : Obj} (hb : h.get b = some o) (hr : ¬ o.ro) (ho : OOK E b o' c) : HOK E (h.set b o') K (w.put (E.blk b) c) := by
  have hold : ∀ i o1, (h.set b o').get i = some o1 → i ≠ b → h.get i = some o1 := by
    intro i o1 hi hne; rw [AH.get_set, if_neg hne] at hi; exact hi
  refine ⟨?_, ?_, ?_, ?_, ?_⟩
  · intro i o1 hi
    by_cases e : i = b
    · subst e
      rw [AH.get_set, if_pos rfl] at hi
      cases hi
      exact ⟨c, by rw [heap_put, if_pos rfl, if_pos (H.lt hb)], ho⟩
    · obtain ⟨c', hc', hk⟩ := H.obj i o1 (hold i o1 hi e)
      refine ⟨c', ?_, hk⟩
      rw [heap_put, if_neg (fun e' => e (H.inj b i o o1 hb (hold i o1 hi e) hr e'.symm).symm)]
      exact hc'
  · intro i o1 hi hr1
    by_cases e : i = b
    · subst e; exact H.nk i o hb hr
    · exact H.nk i o1 (hold i o1 hi e) hr1
  · intro i j oi oj hi hj hri e
    by_cases ei : i = b
    · subst ei
      by_cases ej : j = i
      · exact ej.symm
      · exact H.inj i j o oj hb (hold j oj hj ej) hr e
    · by_cases ej : j = b
      · subst ej; exact H.inj i j oi o (hold i oi hi ei) hb hri e
      · exact H.inj i j oi oj (hold i oi hi ei) (hold j oj hj ej) hri e
  · intro i o1 hi
    by_cases e : i = b
    · subst e; exact H.dom i o hb
    · exact H.dom i o1 (hold i o1 hi e)
  · intro g hg
    have := H.kb g hg
    simp only [World.put, Array.size_setIfInBounds]; exact this
theorem HOK.kept_put (H : HOK E h K w) {b : Nat} {o : AO} (hb : h.get b = some o) (hr : ¬ o.ro) (c : Obj) : Kept K w (w.put (E.blk b) c) :=
  ⟨rfl, rfl, rfl, by simp [World.put], fun g hg => by rw [heap_put]; exact if_neg (fun e => H.nk b o hb hr (by rw [← e]; exact hg))⟩

theorem HOK.kill (H : HOK E h K w) (b : Nat) : HOK E (h.kill b) K w := by
  have hold : ∀ i o1, (h.kill b).get i = some o1 → h.get i = some o1 := by
    intro i o1 hi; rw [AH.get_kill] at hi; split at hi
    · cases hi
    · exact hi
  exact ⟨fun i o hi => H.obj i o (hold i o hi), fun i o hi => H.nk i o (hold i o hi), fun i j oi oj hi hj => H.inj i j oi oj (hold i oi hi) (hold j oj hj),
    fun i o hi => H.dom i o (hold i o hi), H.kb⟩

/-- A block has another number now, and holds something else. -/
theorem HOK.rename (H : HOK E h K w) {b : Nat} {o o' : AO} {c : Obj} (hb : h.get b = some o) (hr : ¬ o.ro) (hE : E.blk h.next = E.blk b) (ho : OOK E h.next o' c) :
    HOK E ((h.kill b).new o') K (w.put (E.blk b) c) := by
  have hold : ∀ i o1, ((h.kill b).new o').get i = some o1 → i ≠ h.next → i ≠ b ∧ h.get i = some o1 := by
    intro i o1 hi hne
    rw [AH.get_new, AH.next_kill, if_neg hne, AH.get_kill] at hi
    split at hi
    · cases hi
    · exact ⟨‹_›, hi⟩
  have hnx : ∀ o1, ((h.kill b).new o').get h.next = some o1 → o1 = o' := by
    intro o1 hi
    rw [AH.get_new, AH.next_kill, if_pos rfl] at hi
    cases hi; rfl
  have hne : ∀ i o1, h.get i = some o1 → i ≠ b → E.blk i ≠ E.blk b := fun i o1 hi hib e => hib (H.inj b i o o1 hb hi hr e.symm).symm
  refine ⟨?_, ?_, ?_, ?_, ?_⟩
  · intro i o1 hi
    by_cases e : i = h.next
    · subst e
      rw [hnx o1 hi]
      exact ⟨c, by rw [heap_put, if_pos hE, if_pos (H.lt hb)], ho⟩
    · obtain ⟨h1, h2⟩ := hold i o1 hi e
      obtain ⟨c', hc', hk⟩ := H.obj i o1 h2
      exact ⟨c', by rw [heap_put, if_neg (hne i o1 h2 h1)]; exact hc', hk⟩
  · intro i o1 hi hr1
    by_cases e : i = h.next
    · subst e; rw [hE]; exact H.nk b o hb hr
    · exact H.nk i o1 (hold i o1 hi e).2 hr1
  · intro i j oi oj hi hj hri e
    by_cases ei : i = h.next
    · by_cases ej : j = h.next
      · rw [ei, ej]
      · obtain ⟨h1, h2⟩ := hold j oj hj ej
        rw [ei, hE] at e
        exact absurd e.symm (hne j oj h2 h1)
    · obtain ⟨h1, h2⟩ := hold i oi hi ei
      by_cases ej : j = h.next
      · rw [ej, hE] at e
        exact absurd e (hne i oi h2 h1)
      · exact H.inj i j oi oj h2 (hold j oj hj ej).2 hri e
  · intro i o1 hi
    by_cases e : i = h.next
    · subst e; simp
    · have := H.dom i o1 (hold i o1 hi e).2
      simp; omega
  · intro g hg
    have := H.kb g hg
    simp only [World.put, Array.size_setIfInBounds]; exact this

/-! ## Cells -/
theorem cellsAt_ok {b : Nat} {cs : List AV} {e : TypeId} {sz : Nat} {ext : Bool} {bk : BK} (hc : cellsAt h b = .ok (cs, e, sz, ext, bk)) : h.get b = some (.cells cs e sz ext bk) := by
  unfold cellsAt at hc
  split at hc
  · rename_i heq; cases hc; exact heq
  · cases hc

theorem HOK.cells (H : HOK E h K w) {b : Nat} {cs : List AV} {e : TypeId} {sz : Nat} {ext : Bool} {bk : BK} (hc : h.get b = some (.cells cs e sz ext bk)) :
    ∃ arr fz, w.heap[E.blk b]? = some (.cells arr e fz) ∧ (∃ rest, arr.toList = concL E cs ++ rest) ∧ (if ext then arr.size = E.cap b * sz else arr.size = cs.length) ∧ marks bk fz arr.size := by
  obtain ⟨c, h1, arr, fz, rfl, h2⟩ := H.obj b _ hc
  exact ⟨arr, fz, h1, h2⟩

theorem HOK.cell (H : HOK E h K w) {b : Nat} {cs : List AV} {e : TypeId} {sz : Nat} {ext : Bool} {bk : BK} (hc : h.get b = some (.cells cs e sz ext bk)) {i : Nat} {v : AV} (hv : cs[i]? = some v) :
    w.cell? ⟨E.blk b, i, none⟩ = some (conc E v) := by
  obtain ⟨arr, fz, h1, ⟨rest, h2⟩, _⟩ := H.cells hc
  rw [cell_of_row w _ i arr e fz h1]
  rw [← Array.getElem?_toList, h2, List.getElem?_append_left (by rw [concL_length]; exact (List.getElem?_eq_some_iff.1 hv).1), concL_get, hv]
  rfl

theorem add_lit (b o j : Nat) : (⟨b, o, none⟩ : Addr).add j = ⟨b, o + j, none⟩ := by
  unfold Addr.add; split <;> simp_all

theorem readN_ok {b off n : Nat} {cs : List AV} (hr : readN h b off n = .ok cs) :
    ∃ cs0 e sz ext bk, h.get b = some (.cells cs0 e sz ext bk) ∧ off + n ≤ cs0.length ∧ cs = (cs0.drop off).take n := by
  unfold readN at hr
  obtain ⟨⟨cs0, e, sz, ext, bk⟩, h1, hr⟩ := R.bind_ok.1 hr
  obtain ⟨_, h2, hr⟩ := R.bind_ok.1 hr
  cases hr
  exact ⟨cs0, e, sz, ext, bk, cellsAt_ok h1, Nat.le_of_ble_eq_true (R.check_ok.1 h2), rfl⟩

theorem HOK.readN_cells (H : HOK E h K w) {b off n : Nat} {cs : List AV} (hr : readN h b off n = .ok cs) :
    (concL E cs).length = n ∧ ∀ j v, (concL E cs)[j]? = some v → w.cell? ((⟨E.blk b, off, none⟩ : Addr).add j) = some v := by
  obtain ⟨cs0, e, sz, ext, bk, hc, hl, rfl⟩ := readN_ok hr
  refine ⟨by simp; omega, fun j v hv => ?_⟩
  rw [concL_get, List.getElem?_take] at hv
  split at hv
  · rw [List.getElem?_drop] at hv
    cases hx : cs0[off + j]? with
    | none => rw [hx] at hv; cases hv
    | some u =>
      rw [hx] at hv
      cases hv
      rw [add_lit]
      exact H.cell hc hx
  · cases hv

theorem HOK.run_readN (H : HOK E h K w) {P : Program} {b off n : Nat} {cs : List AV} (hr : readN h b off n = .ok cs) :
    (loadCells ⟨E.blk b, off, none⟩ n).run P w = .ok (concL E cs).toArray w := by
  obtain ⟨hl, hc⟩ := H.readN_cells hr
  have := run_loadCells_list (P := P) w ⟨E.blk b, off, none⟩ (concL E cs) hc
  rw [hl] at this
  exact this

/-! ## Writing -/
theorem run_storeCells_fz {P : Program} (g o : Nat) (t : TypeId) (fz : Nat × Nat) : ∀ (vs : List Value) (i : Nat) (cur : Array Value) (w : World), w.heap[g]? = some (.cells cur t fz) →
    (∀ j, j < cur.size → ¬ (fz.1 ≤ j ∧ j < fz.2)) → o + i + vs.length ≤ cur.size → (∀ v ∈ vs, v.oneCell' = true) →
    (storeCells ⟨g, o, none⟩ vs i).run P w = .ok () (w.put g (.cells (cur.toList.take (o + i) ++ vs ++ cur.toList.drop (o + i + vs.length)).toArray t fz))
  | [], i, cur, w, hg, _, _, _ => by
    simp only [storeCells, List.append_nil, List.length_nil, Nat.add_zero, List.take_append_drop, Array.toArray_toList]
    have : w.put g (.cells cur t fz) = w := by
      unfold World.put
      have hlt := (Array.getElem?_eq_some_iff.1 hg).1
      have he := (Array.getElem?_eq_some_iff.1 hg).2
      have : w.heap.setIfInBounds g (.cells cur t fz) = w.heap := by
        apply Array.ext
        · simp
        · intro i h1 h2
          rw [Array.getElem_setIfInBounds (by simpa using h2)]
          split
          · rename_i e; subst e; exact he.symm
          · rfl
      rw [this]
    rw [this]
    rfl
  | v :: rest, i, cur, w, hg, hf, hl, h1 => by
    have hi : o + i < cur.size := by simp at hl; omega
    have hlt := (Array.getElem?_eq_some_iff.1 hg).1
    have hcell : w.cell? ⟨g, o + i, none⟩ = some cur[o + i] := by simp [World.cell?, hg, hi]
    have hfro : w.frozen? ⟨g, o + i, none⟩ = false := by
      have := hf (o + i) hi
      obtain ⟨lo, hi'⟩ := fz
      simp only [World.frozen?, hg]
      simpa using this
    have hset : w.setCell ⟨g, o + i, none⟩ v = w.put g (.cells (cur.setIfInBounds (o + i) v) t fz) := by
      unfold World.setCell World.put
      congr 1
      apply Array.ext
      · simp
      · intro j h1 h2
        rw [Array.getElem_modify, Array.getElem_setIfInBounds (by simpa using h2)]
        have he : w.heap[g] = .cells cur t fz := (Array.getElem?_eq_some_iff.1 hg).2
        by_cases e : g = j
        · subst e; simp [he]
        · simp [e]
    have hst : (store ((⟨g, o, none⟩ : Addr).add i) v).run P w = .ok () (w.put g (.cells (cur.setIfInBounds (o + i) v) t fz)) := by
      rw [add_lit, run_store P w _ v _ (h1 v (by simp)), hcell]
      simp [hfro, hset]
    have hg' : (w.put g (.cells (cur.setIfInBounds (o + i) v) t fz)).heap[g]? = some (.cells (cur.setIfInBounds (o + i) v) t fz) := by
      rw [heap_put, if_pos rfl, if_pos hlt]
    simp only [storeCells, Sem.run_bind]
    rw [hst, Result.andThen_ok, run_storeCells_fz g o t fz rest (i + 1) _ _ hg' (by simpa using hf) (by simp at hl ⊢; omega) (fun v hv => h1 v (by simp [hv]))]
    have hL : (cur.setIfInBounds (o + i) v).toList.take (o + (i + 1)) ++ rest ++ (cur.setIfInBounds (o + i) v).toList.drop (o + (i + 1) + rest.length) = cur.toList.take (o + i) ++ (v :: rest) ++ cur.toList.drop (o + i + (v :: rest).length) := by
      have := list_seg_step cur.toList (o + i) v rest (by simp at hl ⊢; omega)
      simp only [Array.toList_setIfInBounds, List.length_cons]
      rw [show o + (i + 1) = o + i + 1 from by omega]
      exact this
    rw [hL]
    unfold World.put
    simp only [Array.setIfInBounds_setIfInBounds]
end
end Go.Am
