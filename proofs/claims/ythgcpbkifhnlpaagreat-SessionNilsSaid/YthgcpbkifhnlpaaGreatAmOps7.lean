/- An evaluator over abstract values, proved sound over the model's machine; no condition. Part: Ops7. -/
import Derived.Test.YthgcpbkifhnlpaaGreatAmOps6
set_option linter.unusedSimpArgs false
set_option linter.unusedVariables false
set_option linter.unusedSectionVars false
set_option linter.deprecated false
namespace Go.Am
open Go.RowKit

theorem put_same {w : World} {g : Nat} {o : Obj} (hg : w.heap[g]? = some o) : w.put g o = w := by
  unfold World.put
  have hlt := (Array.getElem?_eq_some_iff.1 hg).1
  have he := (Array.getElem?_eq_some_iff.1 hg).2
  have : w.heap.setIfInBounds g o = w.heap := by
    apply Array.ext
    · simp
    · intro i h1 h2
      rw [Array.getElem_setIfInBounds (by simpa using h2)]
      split
      · rename_i e; subst e; exact he.symm
      · rfl
  rw [this]

section
variable {P : Program} {tab : Tab} (ok : TabOK P tab) {E : Env} {h : AH} {K : Nat → Prop} {w : World}

theorem mapAt_ok {b : Nat} {es : List (AV × AV × Nat)} {c : Nat} (hm : mapAt h b = .ok (es, c)) : h.get b = some (.mp es c) := by
  unfold mapAt at hm
  split at hm
  · rename_i heq; cases hm; exact heq
  · cases hm
theorem HOK.map (H : HOK E h K w) {b : Nat} {es : List (AV × AV × Nat)} {c : Nat} (hm : h.get b = some (.mp es c)) :
    w.heap[E.blk b]? = some (.map (es.map (concE E)).toArray c) := by
  obtain ⟨o, h1, h2⟩ := H.obj b _ hm
  rw [h1, h2]
theorem run_getMap {b c : Nat} {es : Array MapEntry} (hb : w.heap[b]? = some (.map es c)) : (getObj b).run P w = .ok (.map es c) w := by
  simp [getObj, Sem.run, hb]
theorem run_setMap {b c : Nat} {es : Array MapEntry} (hb : w.heap[b]? = some (.map es c)) (o : Obj) : (setObj b o).run P w = .ok () (w.put b o) := by
  simp [setObj, Sem.run, hb, World.put]

include ok
theorem ckFields_run (d : Nat) (empty : Bool) (ck : TypeId → AV → R Unit)
    (hck : ∀ t v u, ck t v = .ok u → ∀ w, (Instr.checkKey empty d t (conc E v)).run P w = .ok () w) (cs : List AV) :
    ∀ (fs : List Field) (u : Unit), ckFields tab ck cs fs = .ok u → ∀ w,
      (forIn fs PUnit.unit (fun (f : Field) (_ : PUnit) => (do
        if f.name ≠ "_" then
          Instr.checkKey empty d f.type (← Go.part f.type (concL E cs).toArray f.offset)
          pure (ForInStep.yield PUnit.unit)
        else pure (ForInStep.yield PUnit.unit) : Sem (ForInStep PUnit)))).run P w = .ok PUnit.unit w := by
  intro fs
  induction fs with
  | nil => intro u hu w; rfl
  | cons f fs ih =>
    intro u hu w
    simp only [ckFields] at hu
    simp only [List.forIn_cons]
    by_cases hn : f.name ≠ "_"
    · rw [if_pos hn] at hu
      obtain ⟨x, hx, hu⟩ := R.bind_ok.1 hu
      obtain ⟨_, hc, hu⟩ := R.bind_ok.1 hu
      simp only [if_pos hn, Sem.run_bind, part_run ok hx, Result.andThen_ok, hck _ _ _ hc, Sem.run_pure]
      exact ih u hu w
    · rw [if_neg hn] at hu
      simp only [if_neg hn, Sem.run_bind, Sem.run_pure, Result.andThen_ok]
      exact ih u hu w

theorem ckKeyN_run (empty : Bool) : ∀ (d : Nat) (t : TypeId) (v : AV) (u : Unit), ckKeyN tab d t v = .ok u → ∀ (k : Nat) (w : World),
    (Instr.checkKey empty (d + k) t (conc E v)).run P w = .ok () w := by
  intro d
  induction d with
  | zero => intro t v u hu; cases hu
  | succ d ih =>
    intro t v u hu k w
    simp only [ckKeyN] at hu
    obtain ⟨x, hx, hu⟩ := R.bind_ok.1 hu
    have hP := ok.und t x (R.of_ok.1 hx)
    rw [show d + 1 + k = (d + k) + 1 from by omega]
    split at hu
    · cases hu
    · cases hu
    · rename_i fs cs _
      unfold Instr.checkKey
      simp only [Sem.run_bind, underlying, run_program, Result.andThen_ok, hP, Sem.run_pure, conc]
      rw [← Array.forIn_toList]
      have := ckFields_run ok (d + k) empty (ckKeyN tab d) (fun t v u hu w => ih t v u hu k w) cs fs.toList u hu w
      rw [this]
      rfl
    · cases hu
    · rename_i h1 h2 h3 h4
      unfold Instr.checkKey
      simp only [Sem.run_bind, underlying, run_program, Result.andThen_ok, hP, Sem.run_pure]
      clear hx hP
      cases x <;> first | rfl | exact (h1 _ rfl).elim | exact (h2 _ _ rfl).elim | exact (h4 _ rfl).elim | exact (h3 _ rfl).elim

theorem ckKey_run {t : TypeId} {v : AV} {u : Unit} (hc : ckKey tab t v 8 = .ok u) (empty : Bool) (w : World) : (Instr.checkKey empty 10000 t (conc E v)).run P w = .ok () w :=
  ckKeyN_run ok empty 8 t v u hc 9992 w

/-! ## Keys -/
theorem findAsking_run {t : TypeId} {k : AV} : ∀ (es : List (AV × AV × Nat)) (i : Nat) (r : Option (Nat × AV × AV × Nat)), findKey tab t k es i = .ok r → ∀ w,
    (Instr.findAsking t (conc E k) (es.map (concE E)) i).run P w = .ok (r.map fun x => (x.1, conc E x.2.2.1)) w := by
  intro es
  induction es with
  | nil => intro i r hr w; simp only [findKey] at hr; cases hr; rfl
  | cons e es ih =>
    intro i r hr w
    obtain ⟨a, v, n⟩ := e
    simp only [findKey] at hr
    obtain ⟨b, hb, hr⟩ := R.bind_ok.1 hr
    have he := eqT_run ok (E := E) 8 t _ _ b hb 9992 w
    simp only [List.map_cons, Instr.findAsking, Sem.run_bind]
    have he' : (Op.equal t (conc E k) (concE E (a, v, n)).key).run P w = .ok b w := he
    rw [he', Result.andThen_ok]
    cases b with
    | true => simp only [if_true] at hr ⊢; cases hr; rfl
    | false => simp only [Bool.false_eq_true, if_false] at hr ⊢; exact ih (i + 1) r hr w

theorem sameNow_ok {t : TypeId} {d : TypeDesc} (hd : P.underlying t = some d) {k a : AV} {b : Bool} (hb : eqT tab 8 t k a = .ok b) {b' : Bool}
    (hs : Instr.sameNow d (conc E k) (conc E a) = some b') : b' = b := by
  have h1 := eqT_run ok (E := E) 8 t k a b hb 0 default
  obtain ⟨n, hn⟩ : ∃ n, 8 + 0 = n + 1 := ⟨7, rfl⟩
  rw [hn] at h1
  generalize conc E k = X at *
  generalize conc E a = Y at *
  unfold Instr.sameNow at hs
  split at hs
  · split at hs
    · cases hs
      rename_i e
      subst e
      simp only [Op.equalIn, Sem.run_bind, underlying, run_program, Result.andThen_ok, hd, Sem.run_pure, if_true] at h1
      cases h1; rfl
    · cases hs
  · cases hs
    simp only [Op.equalIn, Sem.run_bind, underlying, run_program, Result.andThen_ok, hd, Sem.run_pure] at h1
    cases h1; rfl
  · cases hs
    simp only [Op.equalIn, Sem.run_bind, underlying, run_program, Result.andThen_ok, hd, Sem.run_pure] at h1
    cases h1; rfl
  · cases hs

theorem findNow_ok {t : TypeId} {d : TypeDesc} (hd : P.underlying t = some d) {k : AV} : ∀ (es : List (AV × AV × Nat)) (i : Nat) (r : Option (Nat × AV × AV × Nat)), findKey tab t k es i = .ok r → ∀ r',
    Instr.findNow d (conc E k) (es.map (concE E)) i = some r' → r' = r.map fun x => (x.1, conc E x.2.2.1) := by
  intro es
  induction es with
  | nil => intro i r hr r' hr'; simp only [findKey] at hr; cases hr; simp only [List.map_nil, Instr.findNow] at hr'; cases hr'; rfl
  | cons e es ih =>
    intro i r hr r' hr'
    obtain ⟨a, v, n⟩ := e
    simp only [findKey] at hr
    obtain ⟨b, hb, hr⟩ := R.bind_ok.1 hr
    simp only [List.map_cons, Instr.findNow] at hr'
    cases hsn : Instr.sameNow d (conc E k) (concE E (a, v, n)).key with
    | none => rw [hsn] at hr'; cases hr'
    | some b' =>
      have := sameNow_ok ok (E := E) hd hb hsn
      subst this
      rw [hsn] at hr'
      cases b' with
      | true => simp only [if_true] at hr hr'; cases hr; cases hr'; rfl
      | false => simp only [Bool.false_eq_true, if_false] at hr hr'; exact ih (i + 1) r hr r' hr'

theorem findKey_run {t : TypeId} {d : TypeDesc} (hd : P.underlying t = some d) {k : AV} {es : List (AV × AV × Nat)} {r : Option (Nat × AV × AV × Nat)} (hr : findKey tab t k es 0 = .ok r) (w : World) :
    (Instr.findKey t (conc E k) (es.map (concE E))).run P w = .ok (r.map fun x => (x.1, conc E x.2.2.1)) w := by
  unfold Instr.findKey
  simp only [Sem.run_bind, underlying, run_program, Result.andThen_ok, hd, Sem.run_pure]
  cases hn : Instr.findNow d (conc E k) (es.map (concE E)) 0 with
  | none => exact findAsking_run ok es 0 r hr w
  | some r' => rw [findNow_ok ok hd es 0 r hr r' hn]; rfl

omit ok in
theorem findKey_at {t : TypeId} {k : AV} : ∀ (es : List (AV × AV × Nat)) (i : Nat) (j : Nat) (a v : AV) (n : Nat), findKey tab t k es i = .ok (some (j, a, v, n)) → i ≤ j ∧ es[j - i]? = some (a, v, n) := by
  intro es
  induction es with
  | nil => intro i j a v n h; simp only [findKey] at h; cases h
  | cons e es ih =>
    intro i j a v n h
    obtain ⟨a', v', n'⟩ := e
    simp only [findKey] at h
    obtain ⟨b, hb, h⟩ := R.bind_ok.1 h
    cases b with
    | true => simp only [if_true] at h; cases h; simp
    | false =>
      simp only [Bool.false_eq_true, if_false] at h
      obtain ⟨h1, h2⟩ := ih (i + 1) j a v n h
      refine ⟨by omega, ?_⟩
      rw [show j - i = (j - (i + 1)) + 1 from by omega]
      simpa using h2

omit ok in
theorem entriesOf_run (H : HOK E h K w) {m : AV} {es : List (AV × AV × Nat)} (he : entriesOf h m = .ok es) :
    (conc E m = .map none ∧ es = []) ∨ ∃ b c, m = .map b ∧ h.get b = some (.mp es c) ∧ w.heap[E.blk b]? = some (.map (es.map (concE E)).toArray c) := by
  unfold entriesOf at he
  split at he
  · cases he; exact .inl ⟨rfl, rfl⟩
  · obtain ⟨⟨es', c⟩, hm, he⟩ := R.bind_ok.1 he
    cases he
    exact .inr ⟨_, c, rfl, mapAt_ok hm, H.map (mapAt_ok hm)⟩
  · cases he

theorem lookup_run (H : HOK E h K w) {t : TypeId} {m k v : AV} {c : Bool} (hl : lookup tab h t m k c = .ok v) :
    (Instr.lookup t (conc E m) (conc E k) c).run P w = .ok (conc E v) w := by
  unfold lookup at hl
  obtain ⟨d, hd, hl⟩ := R.bind_ok.1 hl
  have hP := ok.und t d (R.of_ok.1 hd)
  split at hl
  · rename_i kt et
    obtain ⟨es, hes, hl⟩ := R.bind_ok.1 hl
    obtain ⟨_, hck, hl⟩ := R.bind_ok.1 hl
    obtain ⟨r, hr, hl⟩ := R.bind_ok.1 hl
    have hkd : ∃ kd, P.underlying kt = some kd := by
      unfold ckKey at hck
      simp only [ckKeyN] at hck
      obtain ⟨x, hx, _⟩ := R.bind_ok.1 hck
      exact ⟨x, ok.und _ _ (R.of_ok.1 hx)⟩
    obtain ⟨kd, hkd⟩ := hkd
    have hfind := findKey_run ok (E := E) hkd hr w
    have hck' : ∀ b, (Instr.checkKey b 10000 kt (conc E k)).run P w = .ok () w := fun b => ckKey_run ok (E := E) hck b w
    have hend : (match r.map (fun x => (x.1, conc E x.2.2.1)) with
        | some (_, v) => do
          let x ← pure (v, true)
          pure (if c then Value.tuple #[x.1, .bool x.2] else x.1)
        | none => do
          let z ← zeroValue et
          let x ← pure (z, false)
          pure (if c then Value.tuple #[x.1, .bool x.2] else x.1) : Sem Value).run P w = .ok (conc E v) w := by
      cases r with
      | some x =>
        obtain ⟨i, a, v', n⟩ := x
        simp only at hl
        cases hl
        simp only [Option.map_some, Sem.run_bind, Sem.run_pure, Result.andThen_ok]
        cases c <;> rfl
      | none =>
        simp only at hl
        obtain ⟨z, hz, hl⟩ := R.bind_ok.1 hl
        cases hl
        simp only [Option.map_none, Sem.run_bind, Sem.run_pure, Result.andThen_ok, zero_run ok hz E]
        cases c <;> rfl
    unfold Instr.lookup
    simp only [Sem.run_bind, underlying, run_program, Result.andThen_ok, hP, Sem.run_pure]
    rcases entriesOf_run H hes with ⟨h1, rfl⟩ | ⟨b, c', rfl, _, h2⟩
    · rw [h1]
      simp only [List.map_nil] at hfind
      simp only [Sem.run_bind, Sem.run_pure, Result.andThen_ok, hck', List.toList_toArray, hfind]
      exact hend
    · simp only [conc, Sem.run_bind, run_getMap h2, Sem.run_pure, Result.andThen_ok, hck', List.toList_toArray, hfind]
      exact hend
  · cases hl

theorem bits1_same {v : AV} (hv : bits1 v = true) (n : Nat) : Instr.sameBits n (conc E v) (conc E v) = true := by
  cases v <;> simp only [bits1] at hv <;> (try cases hv) <;> cases n <;> simp [conc, Instr.sameBits, beq_toListBytes]
theorem bits_same {v : AV} (hv : bitsOK v = true) (n : Nat) : Instr.sameBits (n + 1) (conc E v) (conc E v) = true := by
  cases v <;> simp only [bitsOK] at hv <;> (try exact bits1_same ok hv (n + 1))
  rename_i cs
  simp only [conc, Instr.sameBits, beq_self_eq_true, Bool.true_and, List.all_eq_true]
  intro x hx
  have : ∀ (l : List Value) (x : Value × Value), x ∈ l.zip l → x.1 = x.2 ∧ x.1 ∈ l := by
    intro l
    induction l with
    | nil => intro x hx; cases hx
    | cons a l ih =>
      intro x hx
      simp only [List.zip_cons_cons, List.mem_cons] at hx
      rcases hx with rfl | hx
      · exact ⟨rfl, by simp⟩
      · have := ih x hx
        exact ⟨this.1, by simp [this.2]⟩
  obtain ⟨h1, h2⟩ := this _ x (by simpa using hx)
  rw [concL_eq] at h2
  obtain ⟨u, hu, hu2⟩ := List.mem_map.1 h2
  rw [← h1, ← hu2]
  exact bits1_same ok (List.all_eq_true.1 hv u hu) n
theorem keyThatStays_run {k : AV} (hk : bitsOK k = true) (w : World) : (Instr.keyThatStays (conc E k) (conc E k)).run P w = .ok (conc E k) w := by
  have : Instr.sameBits 10000 (conc E k) (conc E k) = true := bits_same ok hk 9999
  simp only [Instr.keyThatStays, this, if_true, Sem.run_pure]

omit ok in
theorem setAt_map {es : List (AV × AV × Nat)} {i : Nat} {a v x : AV} {n : Nat} (hi : es[i]? = some (a, v, n)) :
    (es.map (concE E)).toArray.modify i (fun e => { e with key := conc E a, val := conc E x }) = ((setAt es i (a, x, n)).map (concE E)).toArray := by
  apply Array.ext'
  rw [Array.toList_modify]
  simp only
  induction es generalizing i with
  | nil => simp at hi
  | cons e es ih =>
    cases i with
    | zero =>
      simp only [List.getElem?_cons_zero, Option.some.injEq] at hi
      subst hi
      simp [setAt, concE, List.modify]
    | succ i =>
      simp only [List.getElem?_cons_succ] at hi
      have := ih hi
      simp only [List.map_cons, setAt, List.modify_succ_cons]
      rw [this]

theorem mapUpdate_run (H : HOK E h K w) {t : TypeId} {m k x : AV} {h' : AH} (hl : mapUpdate tab h t m k x = .ok h') :
    h'.next = h.next ∧ ∃ w', (Instr.mapUpdate t (conc E m) (conc E k) (conc E x)).run P w = .ok () w' ∧ HOK E h' K w' ∧ Kept K w w' := by
  unfold mapUpdate at hl
  obtain ⟨d, hd, hl⟩ := R.bind_ok.1 hl
  have hP := ok.und t d (R.of_ok.1 hd)
  split at hl
  · rename_i kt et b _
    obtain ⟨⟨es, c⟩, hm, hl⟩ := R.bind_ok.1 hl
    obtain ⟨_, hck, hl⟩ := R.bind_ok.1 hl
    obtain ⟨r, hr, hl⟩ := R.bind_ok.1 hl
    have hm := mapAt_ok hm
    have hw := H.map hm
    have hnr : ¬ (AO.mp es c).ro := fun h => h
    obtain ⟨kd, hkd⟩ : ∃ kd, P.underlying kt = some kd := by
      unfold ckKey at hck
      simp only [ckKeyN] at hck
      obtain ⟨x, hx, _⟩ := R.bind_ok.1 hck
      exact ⟨x, ok.und _ _ (R.of_ok.1 hx)⟩
    have hfind := findKey_run ok (E := E) hkd hr w
    have hck' := ckKey_run ok (E := E) hck false w
    have hgo : (Instr.mapUpdate t (conc E (.map b)) (conc E k) (conc E x)).run P w = (match r.map (fun x => (x.1, conc E x.2.2.1)) with
        | some (i, _) => do
          let key ← Instr.keyThatStays ((((es.map (concE E)).toArray[i]?).map (·.key)).getD (conc E k)) (conc E k)
          setObj (E.blk b) (.map ((es.map (concE E)).toArray.modify i fun e => { e with key, val := conc E x }) c)
        | none => setObj (E.blk b) (.map ((es.map (concE E)).toArray.push { key := conc E k, val := conc E x, born := c }) (c + 1)) : Sem Unit).run P w := by
      unfold Instr.mapUpdate
      simp only [Sem.run_bind, underlying, run_program, Result.andThen_ok, hP, Sem.run_pure, conc, run_getMap hw, hck', List.toList_toArray, hfind]
      cases r <;> rfl
    rw [hgo]
    cases r with
    | some y =>
      obtain ⟨i, a, v, n⟩ := y
      simp only at hl
      obtain ⟨_, hb, hl⟩ := R.bind_ok.1 hl
      cases hl
      have hb := R.check_ok.1 hb
      rw [Bool.and_eq_true] at hb
      have := AV.beq_eq _ _ hb.1
      subst this
      obtain ⟨_, hat⟩ := findKey_at es 0 i a v n hr
      simp only [Nat.sub_zero] at hat
      have hkey : (((es.map (concE E)).toArray[i]?).map (·.key)).getD (conc E a) = conc E a := by
        simp [hat, concE]
      refine ⟨rfl, _, ?_, H.put hm hnr (c := .map ((setAt es i (a, x, n)).map (concE E)).toArray c) rfl, H.kept_put hm hnr _⟩
      simp only [Option.map_some]
      rw [hkey]
      simp only [Sem.run_bind, keyThatStays_run ok hb.2, Result.andThen_ok, run_setMap hw, setAt_map hat]
    | none =>
      simp only at hl
      cases hl
      refine ⟨rfl, _, ?_, H.put hm hnr (c := .map ((es ++ [(k, x, c)]).map (concE E)).toArray (c + 1)) rfl, H.kept_put hm hnr _⟩
      simp only [Option.map_none, run_setMap hw]
      simp [concE]
  · cases hl

theorem mapEntry_run (H : HOK E h K w) {t : TypeId} {m k v : AV} {h' : AH} (hl : mapEntry tab h t m k = .ok (v, h')) :
    h'.next = h.next ∧ ∃ w', (Instr.mapEntry t (conc E m) (conc E k)).run P w = .ok (conc E v) w' ∧ HOK E h' K w' ∧ Kept K w w' := by
  unfold mapEntry at hl
  obtain ⟨d, hd, hl⟩ := R.bind_ok.1 hl
  have hP := ok.und t d (R.of_ok.1 hd)
  split at hl
  · rename_i kt et b _
    obtain ⟨⟨es, c⟩, hm, hl⟩ := R.bind_ok.1 hl
    obtain ⟨_, hck, hl⟩ := R.bind_ok.1 hl
    obtain ⟨r, hr, hl⟩ := R.bind_ok.1 hl
    have hm := mapAt_ok hm
    have hw := H.map hm
    have hnr : ¬ (AO.mp es c).ro := fun h => h
    obtain ⟨kd, hkd⟩ : ∃ kd, P.underlying kt = some kd := by
      unfold ckKey at hck
      simp only [ckKeyN] at hck
      obtain ⟨x, hx, _⟩ := R.bind_ok.1 hck
      exact ⟨x, ok.und _ _ (R.of_ok.1 hx)⟩
    have hfind := findKey_run ok (E := E) hkd hr w
    have hck' := ckKey_run ok (E := E) hck false w
    cases r with
    | some y =>
      obtain ⟨i, a, v', n⟩ := y
      simp only at hl
      obtain ⟨_, hb, hl⟩ := R.bind_ok.1 hl
      cases hl
      have hb := R.check_ok.1 hb
      rw [Bool.and_eq_true] at hb
      have := AV.beq_eq _ _ hb.1
      subst this
      obtain ⟨_, hat⟩ := findKey_at es 0 i a v' n hr
      simp only [Nat.sub_zero] at hat
      refine ⟨rfl, w, ?_, H, Kept.refl K w⟩
      have hsame : (es.map (concE E)).toArray.modify i (fun e => { e with key := conc E a }) = (es.map (concE E)).toArray := by
        apply Array.ext
        · simp
        · intro j h1 h2
          rw [Array.getElem_modify]
          split
          · rename_i e
            subst e
            have : (es.map (concE E)).toArray[i]? = some (concE E (a, v', n)) := by simp [hat]
            rw [Array.getElem?_eq_some_iff] at this
            obtain ⟨_, h3⟩ := this
            rw [h3]
            rfl
          · rfl
      unfold Instr.mapEntry
      simp only [Sem.run_bind, underlying, run_program, Result.andThen_ok, hP, Sem.run_pure, conc, run_getMap hw, hck', List.toList_toArray, hfind, Option.map_some]
      have hkey : (((es.map (concE E)).toArray[i]?).map (·.key)).getD (conc E a) = conc E a := by
        simp [hat, concE]
      have hati : (es.map (concE E)).toArray[i]? = some (concE E (a, v', n)) := by simp [hat]
      rw [hkey]
      simp only [Sem.run_bind, keyThatStays_run ok hb.2, Result.andThen_ok, hsame, run_setMap hw, put_same hw, hati, Option.map_some, Option.getD_some]
      rfl
    | none =>
      simp only at hl
      obtain ⟨z, hz, hl⟩ := R.bind_ok.1 hl
      cases hl
      refine ⟨rfl, _, ?_, H.put hm hnr (c := .map ((es ++ [(k, z, c)]).map (concE E)).toArray (c + 1)) rfl, H.kept_put hm hnr _⟩
      unfold Instr.mapEntry
      simp only [Sem.run_bind, underlying, run_program, Result.andThen_ok, hP, Sem.run_pure, conc, run_getMap hw, hck', List.toList_toArray, hfind, Option.map_none, zero_run ok hz E, run_setMap hw]
      simp [concE, conc, goInt, Go.goInt]
  · cases hl

omit ok in
theorem entrySet_ok {n : Nat} {x : AV} : ∀ (es es' : List (AV × AV × Nat)), entrySet n x es = some es' →
    ∃ i, (es.map (concE E)).findIdx? (fun e => (e.born : Int) == (n : Int)) = some i ∧
      (es.map (concE E)).modify i (fun e => { e with val := conc E x }) = es'.map (concE E) := by
  intro es
  induction es with
  | nil => intro es' h; simp only [entrySet] at h; cases h
  | cons e es ih =>
    intro es' h
    obtain ⟨a, v, m⟩ := e
    simp only [entrySet] at h
    by_cases hb : Nat.beq m n = true
    · rw [hb] at h
      cases h
      have := Nat.eq_of_beq_eq_true hb
      subst this
      exact ⟨0, by simp [List.findIdx?_cons, concE], by simp [concE, List.modify]⟩
    · have hb' : Nat.beq m n = false := Bool.eq_false_iff.2 hb
      rw [hb'] at h
      simp only [cond_false, Option.map_eq_some_iff] at h
      obtain ⟨es2, h1, rfl⟩ := h
      obtain ⟨i, h2, h3⟩ := ih es2 h1
      have hne : ¬ (m : Int) = (n : Int) := fun e => hb (by rw [Int.ofNat.inj e]; exact Nat.beq_refl n)
      refine ⟨i + 1, ?_, by simp [List.modify_succ_cons, h3]⟩
      simp [List.findIdx?_cons, concE, hne] at h2 ⊢
      exact h2

theorem entryStore_run (H : HOK E h K w) {t : TypeId} {m s x : AV} {h' : AH} (hl : entryStore h m s x = .ok h') :
    h'.next = h.next ∧ ∃ w', (Instr.entryStore t (conc E m) (conc E s) (conc E x)).run P w = .ok () w' ∧ HOK E h' K w' ∧ Kept K w w' := by
  unfold entryStore at hl
  split at hl
  · rename_i b
    obtain ⟨⟨es, c⟩, hm, hl⟩ := R.bind_ok.1 hl
    obtain ⟨n, hn, hl⟩ := R.bind_ok.1 hl
    obtain ⟨es', he, hl⟩ := R.bind_ok.1 hl
    cases hl
    have hm := mapAt_ok hm
    have hw := H.map hm
    have hnr : ¬ (AO.mp es c).ro := fun h => h
    obtain ⟨k, rfl⟩ := asNat_ok hn
    obtain ⟨i, h1, h2⟩ := entrySet_ok (E := E) es es' (R.of_ok.1 he)
    refine ⟨rfl, _, ?_, H.put hm hnr (c := .map (es'.map (concE E)).toArray c) rfl, H.kept_put hm hnr _⟩
    unfold Instr.entryStore
    have h1' : (es.map (concE E)).toArray.findIdx? (fun e => (e.born : Int) == (n : Int)) = some i := by
      simpa using h1
    have h2' : (es.map (concE E)).toArray.modify i (fun e => { e with val := conc E x }) = (es'.map (concE E)).toArray := by
      apply Array.ext'
      rw [Array.toList_modify]
      exact h2
    simp only [conc, Sem.run_bind, run_getMap hw, Result.andThen_ok, Go.asInt, Go.asIntOf, Sem.run_pure, h1', h2', run_setMap hw]
  · cases hl

theorem delete_run (H : HOK E h K w) {argTypes : Array TypeId} {t ty : TypeId} (h0 : argTypes[0]? = some t) {m k : AV} {h' : AH} (hl : delete tab h t m k = .ok h') :
    h'.next = h.next ∧ ∃ w', (Builtin.delete_ argTypes ty #[conc E m, conc E k]).run P w = .ok (.tuple #[]) w' ∧ HOK E h' K w' ∧ Kept K w w' := by
  unfold delete at hl
  obtain ⟨d, hd, hl⟩ := R.bind_ok.1 hl
  have hP := ok.und t d (R.of_ok.1 hd)
  split at hl
  · obtain ⟨_, hck, hl⟩ := R.bind_ok.1 hl
    cases hl
    refine ⟨rfl, w, ?_, H, Kept.refl K w⟩
    have hck' := ckKey_run ok (E := E) hck true w
    unfold Builtin.delete_
    simp only [h0, List.getElem?_toArray, List.getElem?_cons_zero, List.getElem?_cons_succ, Sem.run_bind, underlying, run_program, Result.andThen_ok, hP, Sem.run_pure, conc, hck']
  · rename_i kt et b _
    obtain ⟨⟨es, c⟩, hm, hl⟩ := R.bind_ok.1 hl
    obtain ⟨_, hck, hl⟩ := R.bind_ok.1 hl
    obtain ⟨r, hr, hl⟩ := R.bind_ok.1 hl
    have hm := mapAt_ok hm
    have hw := H.map hm
    have hnr : ¬ (AO.mp es c).ro := fun h => h
    obtain ⟨kd, hkd⟩ : ∃ kd, P.underlying kt = some kd := by
      unfold ckKey at hck
      simp only [ckKeyN] at hck
      obtain ⟨x, hx, _⟩ := R.bind_ok.1 hck
      exact ⟨x, ok.und _ _ (R.of_ok.1 hx)⟩
    have hfind := findKey_run ok (E := E) hkd hr w
    have hck' := ckKey_run ok (E := E) hck (es.map (concE E)).toArray.isEmpty w
    cases r with
    | some y =>
      obtain ⟨i, a, v', n⟩ := y
      simp only at hl
      cases hl
      refine ⟨rfl, _, ?_, H.put hm hnr (c := .map ((es.take i ++ es.drop (i + 1)).map (concE E)).toArray c) rfl, H.kept_put hm hnr _⟩
      obtain ⟨_, hat⟩ := findKey_at es 0 i a v' n hr
      simp only [Nat.sub_zero] at hat
      have hlt : i < es.length := (List.getElem?_eq_some_iff.1 hat).1
      have her : (es.map (concE E)).toArray.eraseIdxIfInBounds i = ((es.take i ++ es.drop (i + 1)).map (concE E)).toArray := by
        apply Array.ext'
        simp [Array.eraseIdxIfInBounds, hlt, List.eraseIdx_eq_take_drop_succ, List.map_take, List.map_drop]
      unfold Builtin.delete_
      simp only [h0, List.getElem?_toArray, List.getElem?_cons_zero, List.getElem?_cons_succ, Sem.run_bind, underlying, run_program, Result.andThen_ok, hP, Sem.run_pure, conc, hck', run_getMap hw, List.toList_toArray, hfind, Option.map_some, run_setMap hw, her]
    | none =>
      simp only at hl
      cases hl
      refine ⟨rfl, w, ?_, H, Kept.refl K w⟩
      unfold Builtin.delete_
      simp only [h0, List.getElem?_toArray, List.getElem?_cons_zero, List.getElem?_cons_succ, Sem.run_bind, underlying, run_program, Result.andThen_ok, hP, Sem.run_pure, conc, hck', run_getMap hw, List.toList_toArray, hfind, Option.map_none, run_setMap hw, put_same hw]
  · cases hl

theorem rangeOp_run (H : HOK E h K w) {t : TypeId} {x v : AV} {h' : AH} (hl : rangeOp tab h t x = .ok (v, h')) (hE : E.blk h.next = w.heap.size) :
    h'.next = h.next + 1 ∧ ∃ w', (Instr.range t (conc E x)).run P w = .ok (conc E v) w' ∧ HOK E h' K w' ∧ Kept K w w' := by
  unfold rangeOp at hl
  obtain ⟨d, hd, hl⟩ := R.bind_ok.1 hl
  have hP := ok.und t d (R.of_ok.1 hd)
  split at hl
  · cases hl
    refine ⟨rfl, _, ?_, H.new hE rfl, Kept.alloc H.kb _⟩
    unfold Instr.range
    simp only [Sem.run_bind, underlying, run_program, Result.andThen_ok, hP, Sem.run_pure, conc, run_newObj, hE]
    rfl
  · cases hl
    refine ⟨rfl, _, ?_, H.new hE rfl, Kept.alloc H.kb _⟩
    unfold Instr.range
    simp only [Sem.run_bind, underlying, run_program, Result.andThen_ok, hP, Sem.run_pure, conc, run_newObj, hE]
    rfl
  · rename_i b
    obtain ⟨⟨es, c⟩, hm, hl⟩ := R.bind_ok.1 hl
    cases hl
    have hw := H.map (mapAt_ok hm)
    refine ⟨rfl, _, ?_, H.new hE rfl, Kept.alloc H.kb _⟩
    unfold Instr.range
    simp only [Sem.run_bind, underlying, run_program, Result.andThen_ok, hP, Sem.run_pure, conc, run_getMap hw, run_newObj, hE]
    rfl
  · cases hl
end
end Go.Am
