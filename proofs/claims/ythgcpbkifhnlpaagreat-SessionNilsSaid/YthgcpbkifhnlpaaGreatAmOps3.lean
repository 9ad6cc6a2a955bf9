/- An evaluator over abstract values, proved sound over the model's machine; no condition. Part: Ops3. -/
import Derived.Test.YthgcpbkifhnlpaaGreatAmOps2
import Derived.Laws.MakeOwn
set_option linter.unusedSimpArgs false
set_option linter.unusedVariables false
set_option linter.unusedSectionVars false
set_option linter.deprecated false
namespace Go.Am
open Go.RowKit

/-! ## Rows of zeros, rows laid over one another -/
def repV (n : Nat) (l : List Value) : List Value :=
  match n with
  | 0 => []
  | n + 1 => l ++ repV n l
theorem concL_rep (E : Env) (n : Nat) (l : List AV) : concL E (rep n l) = repV n (concL E l) := by
  induction n with
  | zero => rfl
  | succ n ih => simp [rep, repV, ih]
theorem repV_length (n : Nat) (l : List Value) : (repV n l).length = n * l.length := by
  induction n with
  | zero => simp [repV]
  | succ n ih => simp [repV, ih, Nat.add_mul]; omega
theorem repV_eq (c : Nat) (l : List Value) (k : Nat) (hk : l.length = k) (h0 : 0 < k) :
    (List.range (c * k)).map (fun i => l.toArray[i % k]!) = repV c l := by
  induction c with
  | zero => simp [repV]
  | succ c ih =>
    rw [show (c + 1) * k = k + c * k from by rw [Nat.add_mul]; omega, List.range_add, List.map_append, List.map_map]
    unfold repV
    congr 1
    · apply List.ext_getElem
      · simp [hk]
      · intro i h1 h2
        simp only [List.length_map, List.length_range] at h1
        simp [Nat.mod_eq_of_lt h1, h2]
    · rw [← ih]
      apply List.map_congr_left
      intro i _
      simp
theorem zeroCells_eq (n : Nat) (l : List Value) (h0 : 0 < l.length) : Builtin.zeroCells l.toArray n = (repV n l).toArray := by
  unfold Builtin.zeroCells
  apply Array.ext'
  rw [Array.toList_map, Array.toList_range]
  exact repV_eq n l l.length rfl h0
theorem madeCells_eq (n : Nat) (l : List Value) (h0 : 0 < l.length) : madeCells l.toArray (n * l.length) = (repV n l).toArray := by
  unfold madeCells
  apply Array.ext'
  rw [Array.toList_map, Array.toList_range]
  exact repV_eq n l l.length rfl h0

def overlayV (cs : List Value) (off : Nat) (vs : List Value) : List Value := cs.take off ++ (vs ++ cs.drop (off + vs.length))
theorem concL_overlay (E : Env) (cs : List AV) (off : Nat) (vs : List AV) : concL E (overlay cs off vs) = overlayV (concL E cs) off (concL E vs) := by
  simp [overlay, overlayV, concL_take, concL_drop]
theorem overlayV_length (cs : List Value) (off : Nat) (vs : List Value) (h : off + vs.length ≤ cs.length) : (overlayV cs off vs).length = cs.length := by
  simp [overlayV]; omega
theorem fold_set (off : Nat) : ∀ (vs : List Value) (j : Nat) (cs : Array Value), off + j + vs.length ≤ cs.size →
    ((vs.zipIdx j).foldl (fun cs (x : Value × Nat) => cs.setIfInBounds (off + x.2) x.1) cs) = (overlayV cs.toList (off + j) vs).toArray := by
  intro vs
  induction vs with
  | nil => intro j cs h; simp [overlayV]
  | cons v vs ih =>
    intro j cs h
    simp only [List.zipIdx_cons, List.foldl_cons]
    rw [ih (j + 1) _ (by simp at h ⊢; omega)]
    congr 1
    have := list_seg_step cs.toList (off + j) v vs (by simp at h ⊢; omega)
    simp only [overlayV, Array.toList_setIfInBounds, List.length_cons]
    rw [show off + (j + 1) = off + j + 1 from by omega]
    rw [← List.append_assoc, this]
    simp

section
variable {P : Program} {tab : Tab} (ok : TabOK P tab) {E : Env} {h : AH} {K : Nat → Prop} {w : World}

/-- 'fill', at places given by a list. -/
theorem fill_run {place : Nat → Option (Nat × Nat)} : ∀ (ps : List (Nat × AV)) (qs : List (Nat × Nat × AV)) (cs out : List AV),
    (ps.length = qs.length ∧ ∀ i, i < ps.length → ∀ p q, ps[i]? = some p → qs[i]? = some q → place p.1 = some (q.1, q.2.1) ∧ p.2 = q.2.2) →
    fill cs qs = .ok out → Instr.fill place (concL E cs).toArray (ps.map fun p => (p.1, conc E p.2)) = some (concL E out).toArray := by
  intro ps
  induction ps with
  | nil =>
    intro qs cs out hq hf
    have : qs = [] := List.eq_nil_of_length_eq_zero hq.1.symm
    subst this
    simp only [fill] at hf
    cases hf
    rfl
  | cons p ps ih =>
    intro qs cs out hq hf
    cases qs with
    | nil => simp at hq
    | cons q qs =>
      obtain ⟨off, n, v⟩ := q
      simp only [fill] at hf
      obtain ⟨l, hl, hf⟩ := R.bind_ok.1 hf
      obtain ⟨_, hc, hf⟩ := R.bind_ok.1 hf
      have hc := R.check_ok.1 hc
      rw [Bool.and_eq_true] at hc
      have hc1 := Nat.eq_of_beq_eq_true hc.1
      have hc2 := Nat.le_of_ble_eq_true hc.2
      obtain ⟨h1, h2⟩ := hq.2 0 (by simp) p (off, n, v) rfl rfl
      simp only at h1 h2
      simp only [List.map_cons, Instr.fill, h1, h2, cells_ok hl]
      rw [if_neg (by simp [hc1]; omega)]
      have hz : (concL E l).toArray.zipIdx.foldl (fun cs (x : Value × Nat) => cs.setIfInBounds (off + x.2) x.1) (concL E cs).toArray = (concL E (overlay cs off l)).toArray := by
        have := fold_set off (concL E l) 0 (concL E cs).toArray (by simp; omega)
        rw [concL_overlay, ← Array.foldl_toList]
        simpa using this
      rw [hz]
      refine ih qs _ out ⟨by simpa using hq.1, fun i hi p' q' hp' hq' => ?_⟩ hf
      exact hq.2 (i + 1) (by simpa using hi) p' q' (by simpa using hp') (by simpa using hq')

include ok
theorem fieldPlaces_ok {fs : Array Field} : ∀ (ps : List (Nat × AV)) (qs : List (Nat × Nat × AV)), fieldPlaces tab fs ps = .ok qs →
    (ps.length = qs.length ∧ ∀ i, i < ps.length → ∀ p q, ps[i]? = some p → qs[i]? = some q →
      (∃ f i, fs[p.1]? = some f ∧ P.info? f.type = some i ∧ q.1 = f.offset ∧ q.2.1 = i.size) ∧ p.2 = q.2.2) := by
  intro ps
  induction ps with
  | nil => intro qs hq; simp only [fieldPlaces] at hq; cases hq; simp
  | cons p ps ih =>
    intro qs hq
    obtain ⟨i, v⟩ := p
    simp only [fieldPlaces] at hq
    obtain ⟨f, hf, hq⟩ := R.bind_ok.1 hq
    obtain ⟨n, hn, hq⟩ := R.bind_ok.1 hq
    obtain ⟨r, hr, hq⟩ := R.bind_ok.1 hq
    cases hq
    obtain ⟨h1, h2⟩ := ih r hr
    refine ⟨by simp [h1], fun j hj p q hp hq => ?_⟩
    cases j with
    | zero =>
      simp only [List.getElem?_cons_zero, Option.some.injEq] at hp hq
      subst hp hq
      obtain ⟨x, hx, rfl⟩ := ok.siz _ _ (R.of_ok.1 hn)
      exact ⟨⟨f, x, R.of_ok.1 hf, hx, rfl, rfl⟩, rfl⟩
    | succ j => exact h2 j (by simpa using hj) p q (by simpa using hp) (by simpa using hq)

theorem places_some : ∀ (l : List Field), (∀ f ∈ l, (tab.siz.get f.type).isSome = true) →
    ∃ ps : List (Nat × Nat), l.mapM (fun (f : Field) => (P.info? f.type).map fun i => (f.offset, i.size)) = some ps ∧
      ∀ (i : Nat) (f : Field) (x : TypeInfo), l[i]? = some f → P.info? f.type = some x → ps[i]? = some (f.offset, x.size) := by
  intro l
  induction l with
  | nil => intro _; exact ⟨[], by simp, by simp⟩
  | cons f l ih =>
    intro hl
    obtain ⟨ps, h1, h2⟩ := ih (fun f hf => hl f (by simp [hf]))
    obtain ⟨n, hn⟩ := Option.isSome_iff_exists.1 (hl f (by simp))
    obtain ⟨x, hx, rfl⟩ := ok.siz _ _ hn
    refine ⟨(f.offset, x.size) :: ps, ?_, ?_⟩
    · simp [List.mapM_cons, hx, h1]
    · intro j g y hj hy
      cases j with
      | zero =>
        simp only [List.getElem?_cons_zero, Option.some.injEq] at hj
        subst hj
        rw [hx] at hy
        cases hy
        rfl
      | succ j => simpa using h2 j g y (by simpa using hj) hy

theorem build_run {t : TypeId} {ps : List (Nat × AV)} {v : AV} (hb : build tab t ps = .ok v) :
    (Instr.build t (ps.map fun p => (p.1, conc E p.2)).toArray).run P w = .ok (conc E v) w := by
  unfold build at hb
  obtain ⟨z, hz, hb⟩ := R.bind_ok.1 hb
  obtain ⟨zc, hzc, hb⟩ := R.bind_ok.1 hb
  obtain ⟨u, hu, hb⟩ := R.bind_ok.1 hb
  have hP := ok.und t u (R.of_ok.1 hu)
  obtain ⟨it, hit, hiz⟩ := ok.zer t z (R.of_ok.1 hz)
  split at hb
  · rename_i fs
    obtain ⟨_, hs, hb⟩ := R.bind_ok.1 hb
    obtain ⟨qs, hq, hb⟩ := R.bind_ok.1 hb
    obtain ⟨cs, hc, hb⟩ := R.bind_ok.1 hb
    cases hb
    have hs := R.check_ok.1 hs
    obtain ⟨pl, hp1, hp2⟩ := places_some ok fs.toList (fun f hf => List.all_eq_true.1 hs f hf)
    obtain ⟨hl, hq⟩ := fieldPlaces_ok ok ps qs hq
    have hfill := fill_run (E := E) (place := fun i => pl[i]?) ps qs zc cs ⟨hl, fun i hi p q hp hq' => by
      obtain ⟨⟨f, x, h1, h2, h3, h4⟩, h5⟩ := hq i hi p q hp hq'
      refine ⟨?_, h5⟩
      rw [h3, h4]
      exact hp2 p.1 f x (by simpa using h1) h2⟩ hc
    have hbuilt : P.built t (ps.map fun p => (p.1, conc E p.2)) = some (concL E cs).toArray := by
      unfold Program.built
      simp only [hit, hP, hiz E, hp1, cells_ok hzc]
      simpa using hfill
    exact run_build w t _ _ (by simpa using hbuilt)
  · rename_i len e
    obtain ⟨n, hn, hb⟩ := R.bind_ok.1 hb
    obtain ⟨cs, hc, hb⟩ := R.bind_ok.1 hb
    cases hb
    obtain ⟨ie, hie, rfl⟩ := ok.siz _ _ (R.of_ok.1 hn)
    have hfill := fill_run (E := E) (place := fun i => some (i * ie.size, ie.size)) ps _ zc cs ⟨by simp, fun i hi p q hp hq => by
      rw [List.getElem?_map, hp] at hq
      cases hq
      exact ⟨rfl, rfl⟩⟩ hc
    have hbuilt : P.built t (ps.map fun p => (p.1, conc E p.2)) = some (concL E cs).toArray := by
      unfold Program.built
      simp only [hit, hP, hiz E, hie, cells_ok hzc]
      exact hfill
    exact run_build w t _ _ (by simpa using hbuilt)
  · cases hb

theorem buildSlice_run (H : HOK E h K w) {t : TypeId} {len : Nat} {ps : List (Nat × AV)} {v : AV} {h' : AH} (hb : buildSlice tab h t len ps = .ok (v, h'))
    (hE : E.blk h.next = w.heap.size) :
    h'.next = h.next + 1 ∧ ∃ w', (Instr.buildSlice t len (ps.map fun p => (p.1, conc E p.2)).toArray).run P w = .ok (conc E v) w' ∧ HOK E h' K w' ∧ Kept K w w' := by
  unfold buildSlice at hb
  obtain ⟨u, hu, hb⟩ := R.bind_ok.1 hb
  have hP := ok.und t u (R.of_ok.1 hu)
  split at hb
  · rename_i e
    obtain ⟨n, hn, hb⟩ := R.bind_ok.1 hb
    obtain ⟨_, hc, hb⟩ := R.bind_ok.1 hb
    obtain ⟨z, hz, hb⟩ := R.bind_ok.1 hb
    obtain ⟨zc, hzc, hb⟩ := R.bind_ok.1 hb
    obtain ⟨_, hzl, hb⟩ := R.bind_ok.1 hb
    obtain ⟨cs, hf, hb⟩ := R.bind_ok.1 hb
    obtain ⟨⟨h1, b⟩, hr, hb⟩ := R.bind_ok.1 hb
    cases hb
    have hc := Nat.le_of_ble_eq_true (R.check_ok.1 hc)
    have hzl := Nat.eq_of_beq_eq_true (R.check_ok.1 hzl)
    obtain ⟨n', _, rfl, rfl⟩ := newRow_ok hr
    have hfill := fill_run (E := E) (place := fun i => some (i * n, n)) ps _ (rep len zc) cs ⟨by simp, fun i hi p q hp hq => by
      rw [List.getElem?_map, hp] at hq
      cases hq
      exact ⟨rfl, rfl⟩⟩ hf
    have hmade : ((Array.range (len * n)).map fun i => (if len * n = 0 then #[] else (concL E zc).toArray)[i % (if len * n = 0 then #[] else (concL E zc).toArray).size]!) = (concL E (rep len zc)).toArray := by
      rw [concL_rep]
      by_cases h0 : len * n = 0
      · rw [h0]
        have : repV len (concL E zc) = [] := List.eq_nil_of_length_eq_zero (by rw [repV_length, concL_length, hzl]; exact h0)
        simp [this]
      · simp only [if_neg h0]
        have hn0 : 0 < n := Nat.pos_of_ne_zero (fun e => h0 (by rw [e]; simp))
        have := madeCells_eq len (concL E zc) (by rw [concL_length, hzl]; exact hn0)
        rw [concL_length, hzl] at this
        exact this
    obtain ⟨H', hk⟩ := new_cells H hE cs e n'
    refine ⟨rfl, _, ?_, H', hk⟩
    unfold Instr.buildSlice
    simp only [Sem.run_bind, underlying, run_program, Result.andThen_ok, hP, Sem.run_pure, siz_run ok hn]
    rw [if_neg (by omega)]
    by_cases h0 : len * n = 0
    · simp only [if_pos h0] at hmade ⊢
      simp only [Sem.run_bind, Sem.run_pure, Result.andThen_ok]
      rw [hmade, hfill]
      simp only [Sem.run_bind, run_newRow, Result.andThen_ok, Sem.run_pure, conc, Cap.val, hE]
    · simp only [if_neg h0] at hmade ⊢
      simp only [Sem.run_bind, zero_run ok hz E, Sem.run_pure, Result.andThen_ok, cells_ok hzc]
      rw [hmade, hfill]
      simp only [Sem.run_bind, run_newRow, Result.andThen_ok, Sem.run_pure, conc, Cap.val, hE]
  · cases hb

theorem makeSlice_run (H : HOK E h K w) {t : TypeId} {len cap v : AV} {h' : AH} (hb : makeSlice tab h t len cap = .ok (v, h')) (hE : E.blk h.next = w.heap.size) :
    h'.next = h.next + 1 ∧ ∃ w', (Instr.makeSlice t (conc E len) (conc E cap)).run P w = .ok (conc E v) w' ∧ HOK E h' K w' ∧ Kept K w w' := by
  unfold makeSlice at hb
  obtain ⟨u, hu, hb⟩ := R.bind_ok.1 hb
  have hP := ok.und t u (R.of_ok.1 hu)
  split at hb
  · rename_i e
    obtain ⟨l, hl, hb⟩ := R.bind_ok.1 hb
    obtain ⟨c, hc, hb⟩ := R.bind_ok.1 hb
    obtain ⟨by_, hby, hb⟩ := R.bind_ok.1 hb
    obtain ⟨_, hlim, hb⟩ := R.bind_ok.1 hb
    obtain ⟨n, hn, hb⟩ := R.bind_ok.1 hb
    obtain ⟨z, hz, hb⟩ := R.bind_ok.1 hb
    obtain ⟨zc, hzc, hb⟩ := R.bind_ok.1 hb
    obtain ⟨_, hzl, hb⟩ := R.bind_ok.1 hb
    obtain ⟨⟨h1, b⟩, hr, hb⟩ := R.bind_ok.1 hb
    cases hb
    have hlim := R.check_ok.1 hlim
    simp only [Bool.and_eq_true] at hlim
    have hl1 := Nat.le_of_ble_eq_true hlim.1.1
    have hl2 := Nat.le_of_ble_eq_true hlim.1.2
    have hl3 := Nat.le_of_ble_eq_true hlim.2
    have hzl := R.check_ok.1 hzl
    simp only [Bool.and_eq_true] at hzl
    have hzl1 := Nat.eq_of_beq_eq_true hzl.1
    have hn0 : 0 < n := Nat.pos_of_ne_zero (by rintro rfl; simp at hzl)
    obtain ⟨n', _, rfl, rfl⟩ := newRow_ok hr
    obtain ⟨kl, rfl⟩ := asNat_ok hl
    obtain ⟨kc, rfl⟩ := asNat_ok hc
    obtain ⟨i, hi, rfl⟩ := ok.siz _ _ (R.of_ok.1 hn)
    obtain ⟨i', hi', hz'⟩ := ok.zer _ _ (R.of_ok.1 hz)
    rw [hi] at hi'; cases hi'
    obtain ⟨i', hi', hby'⟩ := ok.byt _ _ (R.of_ok.1 hby)
    rw [hi] at hi'; cases hi'
    obtain ⟨H', hk⟩ := new_cells H hE (rep c zc) e n'
    refine ⟨rfl, _, ?_, H', hk⟩
    have hbc : (i.bytes : Int) * (c : Int) ≤ 281474976710656 := by
      rw [hby']
      have h3 : ((by_ * c : Nat) : Int) ≤ ((16777216 : Nat) : Int) := Int.ofNat_le.2 hl3
      rw [Int.natCast_mul] at h3
      omega
    have hrun := run_make (P := P) w t e i (conc E z) hP hi (hz' E) kl kc l c (by omega) (by omega) hbc (by omega)
    simp only [conc]
    rw [hrun]
    simp only [Int.toNat_natCast, cells_ok hzc, Cap.val, hE, concL_rep]
    have := madeCells_eq c (concL E zc) (by rw [concL_length, hzl1]; exact hn0)
    rw [concL_length, hzl1] at this
    rw [this]
  · cases hb
end
end Go.Am
