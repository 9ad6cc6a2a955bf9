/- An evaluator over abstract values, proved sound over the model's machine; no condition. Part: Nxt. -/
import Derived.Test.YthgcpbkifhnlpaaGreatAmWalk3
set_option linter.unusedSimpArgs false
set_option linter.unusedVariables false
set_option linter.unusedSectionVars false
set_option linter.deprecated false
namespace Go.Am
open Go.RowKit

theorem cut_mapNext {P : Program} (w : World) (n : Nat) (hn : 1 < n) : (choose (.mapNext n)).run P w = .ok (w.tape w.drawn (.mapNext n) % n) w.drew := by
  have : (Question.mapNext n).forced = false := by simp [Question.forced]; omega
  simp only [choose, Sem.run, this, Bool.false_eq_true, if_false, Question.cut]
  rfl
theorem cut_mapNext1 {P : Program} (w : World) (n : Nat) (hn : n ≤ 1) : (choose (.mapNext n)).run P w = .ok 0 w := by
  have : (Question.mapNext n).forced = true := by simp [Question.forced]; omega
  simp only [choose, Sem.run, this, if_true]

theorem run_setO {P : Program} {w : World} {r : Nat} {o : Obj} (h : w.heap[r]? = some o) (hn : ∀ c e f, o ≠ .cells c e f) (o' : Obj) : (setObj r o').run P w = .ok () (w.put r o') := by
  simp only [setObj, Sem.run, h]
  rfl

section
variable {P : Program} {h : AH}

theorem left_conc (E : Env) (es : List (AV × AV × Nat)) (seen : List Nat) :
    (es.map (concE E)).toArray.filter (fun e => !seen.toArray.contains e.born) = ((es.filter fun x => !(seen.any (Nat.beq x.2.2))).map (concE E)).toArray := by
  apply Array.toList_inj.1
  simp only [Array.toList_filter, List.toList_toArray, List.filter_map]
  congr 1
  apply List.filter_congr
  intro x _
  simp only [Function.comp, concE, List.contains_toArray]
  congr 1
  rw [Bool.eq_iff_iff]
  simp [List.any_eq_true]

theorem nextOp_run {it : AV} {s : Bool} {l : List (AV × AH)} (hn : nextOp h it s = .ok l) (w : World) (ty : TypeId) :
    ∃ j : Nat, ∀ E K, HOK E h K w → ∃ (v : AV) (h' : AH), l[j]? = some (v, h') ∧ h'.next = h.next ∧ ∃ w', (Instr.next (conc E it) s ty).run P w = .ok (conc E v) w' ∧ HOK E h' K w' ∧ Kept K w w' := by
  unfold nextOp at hn
  split at hn
  · rename_i r
    split at hn
    · rename_i hr
      cases hn
      refine ⟨0, fun E K H => ⟨_, _, rfl, rfl, w, ?_, H, Kept.refl K w⟩⟩
      obtain ⟨o, ho, hoo⟩ := H.obj r _ hr
      simp only [OOK] at hoo
      subst hoo
      unfold Instr.next
      simp only [conc, Sem.run_bind, run_getO ho (by simp), Result.andThen_ok, Option.map_none]
      rfl
    · rename_i str pos hr
      by_cases hlt : Nat.blt pos str.length = true
      · simp only [hlt, cond_true] at hn
        cases hn
        refine ⟨0, fun E K H => ?_⟩
        obtain ⟨o, ho, hoo⟩ := H.obj r _ hr
        simp only [OOK] at hoo
        subst hoo
        have hp : pos < (⟨str.toArray⟩ : ByteArray).size := by rw [size_mk]; simpa using hlt
        refine ⟨_, _, rfl, rfl, w.put (E.blk r) (.stringIter ⟨str.toArray⟩ (pos + (Utf8.decode ⟨str.toArray⟩ pos).2)), ?_, H.put hr (by simp [AO.ro]) (by simp [OOK]), H.kept_put hr (by simp [AO.ro]) _⟩
        unfold Instr.next
        simp only [conc, Sem.run_bind, run_getO ho (by simp), Result.andThen_ok, hp, if_true]
        rw [run_setO ho (by simp)]
        simp [conc, goInt, Go.goInt]
      · simp only [Bool.not_eq_true] at hlt
        simp only [hlt, cond_false] at hn
        cases hn
        refine ⟨0, fun E K H => ⟨_, _, rfl, rfl, w, ?_, H, Kept.refl K w⟩⟩
        obtain ⟨o, ho, hoo⟩ := H.obj r _ hr
        simp only [OOK] at hoo
        subst hoo
        have hp : ¬ pos < (⟨str.toArray⟩ : ByteArray).size := by
          intro e
          have : Nat.blt pos str.length = true := by rw [size_mk] at e; simpa using e
          rw [this] at hlt; cases hlt
        unfold Instr.next
        simp only [conc, Sem.run_bind, run_getO ho (by simp), Result.andThen_ok, hp, if_false]
        rfl
    · rename_i m since seen last hr
      obtain ⟨⟨es, c⟩, hm, hn1⟩ := R.bind_ok.1 hn
      obtain ⟨_, hck, hn2⟩ := R.bind_ok.1 hn1
      have hck := R.check_ok.1 hck
      simp only [Bool.and_eq_true, List.all_eq_true] at hck
      obtain ⟨hcs, hall⟩ := hck
      have hcs := Nat.eq_of_beq_eq_true hcs
      subst hcs
      have hgo : ∀ E K, HOK E h K w → w.heap[E.blk r]? = some (.mapIter (some (E.blk m)) c seen.toArray last) ∧ w.heap[E.blk m]? = some (.map (es.map (concE E)).toArray c) := by
        intro E K H
        obtain ⟨o, ho, hoo⟩ := H.obj r _ hr
        simp only [OOK] at hoo
        subst hoo
        exact ⟨ho, H.map (mapAt_ok hm)⟩
      have hborn : ∀ x ∈ es, x.2.2 < c ∧ x.2.2 < last := by
        intro x hx
        have := hall x hx
        simpa using this
      have hold : ∀ (E : Env) (q : List (AV × AV × Nat)), (∀ x ∈ q, x ∈ es) → ((q.map (concE E)).toArray.filter fun e => decide (e.born < c)) = (q.map (concE E)).toArray ∧ ((q.map (concE E)).toArray.filter fun e => decide (e.born ≥ c)) = #[] := by
        intro E q hq
        constructor
        · apply Array.filter_eq_self.2
          intro a ha
          obtain ⟨x, hx, rfl⟩ := List.mem_map.1 (List.mem_toArray.1 ha)
          have h1 := (hborn _ (hq _ hx)).1
          exact decide_eq_true h1
        · apply Array.filter_eq_empty_iff.2
          intro a ha
          obtain ⟨x, hx, rfl⟩ := List.mem_map.1 (List.mem_toArray.1 ha)
          have h1 := (hborn _ (hq _ hx)).1
          intro h2
          exact Nat.not_le.2 h1 (of_decide_eq_true h2)
      have hchk : ∀ E : Env, (!seen.toArray.isEmpty && !(es.map (concE E)).toArray.isEmpty && (es.map (concE E)).toArray.all (fun e => decide (e.born ≥ last))) = false := by
        intro E
        cases es with
        | nil => simp
        | cons x t =>
          have := (hborn x List.mem_cons_self).2
          have : (((x :: t).map (concE E)).toArray.all (fun e => decide (e.born ≥ last))) = false := by
            simp [concE]
            intro h1
            omega
          rw [this, Bool.and_false]
      generalize hL : (es.filter fun x => !(seen.any (Nat.beq x.2.2))) = L at hn2
      have hLm : ∀ x ∈ L, x ∈ es := by
        intro x hx
        rw [← hL] at hx
        exact (List.mem_filter.1 hx).1
      cases L with
      | nil =>
        cases hn2
        refine ⟨0, fun E K H => ⟨_, _, rfl, rfl, w, ?_, H, Kept.refl K w⟩⟩
        obtain ⟨h1, h2⟩ := hgo E K H
        obtain ⟨h3, h4⟩ := hold E [] (by simp)
        unfold Instr.next
        simp only [conc, Sem.run_bind, run_getO h1 (by simp), run_getO h2 (by simp), Result.andThen_ok, hchk E, Bool.false_eq_true, if_false, left_conc, hL, h3, h4, Sem.run_pure]
        rw [cut_mapNext1 _ _ (by simp)]
        simp [conc]
      | cons a t =>
        simp only at hn2
        cases hn2
        let L : List (AV × AV × Nat) := a :: t
        have hj : ∃ j : Nat, j < (a :: t).length ∧ ∃ w1, w1.heap = w.heap ∧ Kept (fun _ => False) w w1 ∧ (w1 = w ∨ w1 = w.drew) ∧ (choose (.mapNext (a :: t).length)).run P w = .ok j w1 := by
          by_cases h1 : (a :: t).length ≤ 1
          · exact ⟨0, by simp, w, rfl, Kept.refl _ w, .inl rfl, cut_mapNext1 w _ h1⟩
          · exact ⟨_, Nat.mod_lt _ (by simp), w.drew, rfl, Kept.drew _ w, .inr rfl, cut_mapNext w _ (by omega)⟩
        obtain ⟨j, hlt, w1, hh, _, hw1, hrun⟩ := hj
        refine ⟨j, fun E K H => ?_⟩
        obtain ⟨h1, h2⟩ := hgo E K H
        obtain ⟨h3, h4⟩ := hold E (a :: t) hLm
        have H1 : HOK E h K w1 := by
          rcases hw1 with rfl | rfl
          · exact H
          · exact H.drew
        have k1 : Kept K w w1 := by
          rcases hw1 with rfl | rfl
          · exact Kept.refl K _
          · exact Kept.drew K w
        refine ⟨.tup [.bool true, (a :: t)[j].1, (a :: t)[j].2.1], h.set r (.miter (some m) c (seen ++ [(a :: t)[j].2.2]) c), ?_, rfl, w1.put (E.blk r) (.mapIter (some (E.blk m)) c (seen ++ [(a :: t)[j].2.2]).toArray c), ?_,
          H1.put hr (by simp [AO.ro]) (by simp [OOK]), k1.trans (H1.kept_put hr (by simp [AO.ro]) _)⟩
        · rw [List.getElem?_map, List.getElem?_eq_getElem hlt]
          rfl
        · unfold Instr.next
          simp only [conc, Sem.run_bind, run_getO h1 (by simp), run_getO h2 (by simp), Result.andThen_ok, hchk E, Bool.false_eq_true, if_false, left_conc, hL, h3, h4, Sem.run_pure]
          have hc : ((if ((a :: t).map (concE E)).toArray.isEmpty = true then #[none] else #[]) ++ ((((a :: t).map (concE E)).toArray ++ #[]).map some) : Array (Option MapEntry)) = ((a :: t).map (fun x => some (concE E x))).toArray := by
            simp
          rw [hc]
          have hsz : ((a :: t).map (fun x => some (concE E x))).toArray.size = (a :: t).length := by simp
          rw [hsz, hrun]
          have hget : ((a :: t).map (fun x => some (concE E x))).toArray[j]? = some (some (concE E (a :: t)[j])) := by
            rw [List.getElem?_toArray, List.getElem?_map, List.getElem?_eq_getElem hlt]
            rfl
          simp only [Result.andThen_ok, hget, Sem.run_bind]
          have ho1 : w1.heap[E.blk r]? = some (.mapIter (some (E.blk m)) c seen.toArray last) := by rw [hh]; exact h1
          rw [run_setO ho1 (by simp)]
          simp [concE, conc]
    · cases hn
  · cases hn
end
end Go.Am
