/- An evaluator over abstract values, proved sound over the model's machine; no condition. Part: Ops5. -/
import Derived.Test.YthgcpbkifhnlpaaGreatAmOps4
set_option linter.unusedSimpArgs false
set_option linter.unusedVariables false
set_option linter.unusedSectionVars false
set_option linter.deprecated false
namespace Go.Am
open Go.RowKit

section
variable {P : Program} {tab : Tab} (ok : TabOK P tab) {E : Env} {h : AH} {K : Nat → Prop} {w : World}

/-! ## Bytes -/
theorem concL_ofBytes (E : Env) (s : List UInt8) : concL E (ofBytes s) = s.map fun b => Value.int .u8 b.toNat := by
  simp only [ofBytes, concL_eq, List.map_map]
  rfl
theorem bytesOf_ok {cs : List AV} {s : List UInt8} (hb : bytesOf cs = .ok s) :
    ∃ ns : List Int, concL E cs = ns.map (Value.int .u8) ∧ ns.map (fun n => UInt8.ofNat n.toNat) = s := by
  induction cs generalizing s with
  | nil => simp only [bytesOf] at hb; cases hb; exact ⟨[], rfl, rfl⟩
  | cons c cs ih =>
    unfold bytesOf at hb
    split at hb
    · rename_i e; cases e
    · rename_i n l e
      cases e
      obtain ⟨r, hr, hb⟩ := R.bind_ok.1 hb
      cases hb
      obtain ⟨ns, h1, h2⟩ := ih hr
      exact ⟨(n : Int) :: ns, by simp [h1, conc], by simp [h2]⟩
    · cases hb
def strLen : AV → Nat
  | .str s => s.length
  | _ => 0
theorem foldl_push (ns : List Int) : ∀ (r : List UInt8), ns.foldl (fun (r : ByteArray) n => r.push (UInt8.ofNat n.toNat)) ⟨r.toArray⟩ = ⟨(r ++ ns.map fun n => UInt8.ofNat n.toNat).toArray⟩ := by
  induction ns with
  | nil => intro r; simp
  | cons n ns ih =>
    intro r
    simp only [List.foldl_cons]
    have : (⟨r.toArray⟩ : ByteArray).push (UInt8.ofNat n.toNat) = ⟨(r ++ [UInt8.ofNat n.toNat]).toArray⟩ := by
      apply ByteArray.ext
      simp [ByteArray.push]
    rw [this, ih]
    simp

theorem shape_alloc (w : World) (arr : Array Value) (e : TypeId) (fz : Nat × Nat) : (w.alloc (.cells arr e fz)).shape? w.heap.size = some (e, arr.size) := by
  unfold World.shape?
  rw [heap_alloc_new]
theorem freeze_alloc (w : World) (arr : Array Value) (e : TypeId) (n : Nat) :
    (w.alloc (.cells arr e)).freeze { block := w.heap.size, off := n } 1 = w.alloc (.cells arr e (n, n + 1)) := by
  unfold World.freeze World.alloc
  simp only [Nat.one_ne_zero, if_false]
  congr 1
  apply Array.ext
  · simp
  · intro i h1 h2
    rw [Array.getElem_modify, Array.getElem_push, Array.getElem_push]
    by_cases h : i < w.heap.size
    · simp [h]; omega
    · have : i = w.heap.size := by simp at h2; omega
      simp [this]

include ok
theorem convert_run (H : HOK E h K w) {src dst : TypeId} {x v : AV} {h' : AH} (hc : convert tab h src dst x = .ok (v, h'))
    (hE : h.next < h'.next → E.blk h.next = w.heap.size ∧ E.cap h.next = grownCap w (strLen x) 0 (P.elem dst)) :
    (h.next ≤ h'.next ∧ h'.next ≤ h.next + 1) ∧ ∃ w', (Go.convert src dst (conc E x)).run P w = .ok (conc E v) w' ∧ HOK E h' K w' ∧ Kept K w w' := by
  unfold convert at hc
  obtain ⟨a, ha, hc⟩ := R.bind_ok.1 hc
  obtain ⟨b, hb, hc⟩ := R.bind_ok.1 hc
  have hPa := ok.und src a (R.of_ok.1 ha)
  have hPb := ok.und dst b (R.of_ok.1 hb)
  split at hc
  · cases hc
    refine ⟨by omega, w, ?_, H, Kept.refl K w⟩
    simp only [conc]
    unfold Go.convert
    simp [underlying, hPa, hPb, Conv.intToInt]
  · cases hc
    refine ⟨by omega, w, ?_, H, Kept.refl K w⟩
    simp only [conc]
    unfold Go.convert
    simp [underlying, hPa, hPb]
  · rename_i e s _ _
    obtain ⟨d, hd, hc⟩ := R.bind_ok.1 hc
    have hPe := ok.und e d (R.of_ok.1 hd)
    split at hc
    · obtain ⟨n, hn, hc⟩ := R.bind_ok.1 hc
      obtain ⟨_, h1, hc⟩ := R.bind_ok.1 hc
      obtain ⟨⟨h2, b2⟩, hr, hc⟩ := R.bind_ok.1 hc
      cases hc
      obtain ⟨n', hn', rfl, rfl⟩ := newRow_ok hr
      rw [hn] at hn'; cases hn'
      have h1 := Nat.eq_of_beq_eq_true (R.check_ok.1 h1)
      subst h1
      have hel : P.elem dst = e := by simp [Program.elem, hPb]
      obtain ⟨hE1, hE2⟩ := hE (by simp)
      rw [hel] at hE2
      simp only [strLen] at hE2
      have hge := grownCap_ge w s.length 0 e
      have hrun : (Go.convert src dst (conc E (.str s))).run P w = .ok (.slice (some ⟨w.heap.size, 0, none⟩) s.length (grownCap w s.length 0 e))
          (w.drew.alloc (.cells ((s.map fun b => Value.int .u8 b.toNat).toArray ++ Array.replicate (grownCap w s.length 0 e - s.length) (.int .u8 0)) e (grownCap w s.length 0 e, grownCap w s.length 0 e + 1))) := by
        simp only [conc]
        unfold Go.convert
        have hq : (Question.appendCap s.length 0 e).cut (w.tape w.drawn (.appendCap s.length 0 e)) = grownCap w s.length 0 e := rfl
        simp only [Sem.run_bind, underlying, run_program, Result.andThen_ok, hPa, hPb, hPe, Sem.run_pure, Conv.stringToBytes, run_choose, Question.forced, Bool.false_eq_true, if_false, run_newRow, markStringish, run_shape, size_mk, hq, World.drew_eq, World.size_drew]
        generalize grownCap w s.length 0 e = cp at *
        have harr : (Array.map (fun b => Value.int .u8 b.toNat) s.toArray ++ Array.replicate (cp - s.length) (Value.int .u8 0)).size = cp := by
          simp; omega
        have harr2 : Array.map (fun b => Value.int .u8 b.toNat) s.toArray = (s.map fun b => Value.int .u8 b.toNat).toArray := by simp
        rw [← harr2]
        generalize Array.map (fun b => Value.int .u8 b.toNat) s.toArray ++ Array.replicate (cp - s.length) (Value.int .u8 0) = arr at *
        have e1 := shape_alloc w.drew arr e (0, 0)
        rw [World.size_drew] at e1
        rw [e1]
        simp only [harr, run_freeze, Result.andThen_ok]
        have e2 := freeze_alloc w.drew arr e cp
        rw [World.size_drew] at e2
        rw [e2]
      have hv : conc E (.sl h.next 0 s.length (.tail 0)) = .slice (some ⟨w.heap.size, 0, none⟩) s.length (grownCap w s.length 0 e) := by
        simp [conc, Cap.val, hE1, hE2]
      rw [← hv] at hrun
      refine ⟨by simp, _, hrun, H.drew.new (by simpa using hE1) ?_, (Kept.drew K w).trans (Kept.alloc (by simpa using H.kb) _)⟩
      · refine ⟨_, _, rfl, ⟨_, by rw [Array.toList_append, List.toList_toArray, concL_ofBytes]⟩, ?_, ?_⟩
        · simp [hE2]; omega
        · simp only [marks, Array.size_append, List.size_toArray, List.length_map, Array.size_replicate]
          congr 1 <;> omega
    · cases hc
  · rename_i e _ hns
    obtain ⟨d, hd, hc⟩ := R.bind_ok.1 hc
    have hPe := ok.und e d (R.of_ok.1 hd)
    split at hc
    · cases hc
      refine ⟨by omega, w, ?_, H, Kept.refl K w⟩
      simp only [conc]
      rw [run_convert_bytes_string w src dst e _ _ _ hPa hPe hPb]
      simp [Conv.bytesToString]
      rfl
    · obtain ⟨cs, hcs, hc⟩ := R.bind_ok.1 hc
      obtain ⟨s, hs, hc⟩ := R.bind_ok.1 hc
      cases hc
      refine ⟨by omega, w, ?_, H, Kept.refl K w⟩
      obtain ⟨ns, h1, h2⟩ := bytesOf_ok (E := E) hs
      simp only [conc]
      rw [run_convert_bytes_string w src dst e _ _ _ hPa hPe hPb, run_bytesToString w _ _ _ ns (by rw [← h1]; exact H.run_readN hcs)]
      have := foldl_push ns []
      rw [show (⟨([] : List UInt8).toArray⟩ : ByteArray) = ByteArray.empty from rfl] at this
      rw [this, h2]
      rfl
    · cases hc
      refine ⟨by omega, w, ?_, H, Kept.refl K w⟩
      simp only [conc]
      rw [run_convert_bytes_string w src dst e _ _ _ hPa hPe hPb]
      simp [Conv.bytesToString, loadCells, loadCellsFrom]
      rfl
    · cases hc
  · rename_i e b off n c _ _
    obtain ⟨d, hd, hc⟩ := R.bind_ok.1 hc
    have hPe := ok.und e d (R.of_ok.1 hd)
    split at hc
    · rename_i heq
      obtain ⟨⟨cs, e', sz, ext, bk⟩, hcs, hc⟩ := R.bind_ok.1 hc
      obtain ⟨_, hro, hc⟩ := R.bind_ok.1 hc
      cases hc
      have hro : bk ≠ .ro := by simpa using R.check_ok.1 hro
      have hcs := cellsAt_ok hcs
      have heq := Nat.eq_of_beq_eq_true heq
      subst heq
      cases hPa.symm.trans hPb
      obtain ⟨arr, fz, hh, hpre, hsz, hm⟩ := H.cells hcs
      have hnr : ¬ (AO.cells cs e' sz ext bk).ro := by cases bk <;> simp_all [AO.ro]
      have hfz : w.freeze { block := E.blk b, off := arr.size } 1 = w.put (E.blk b) (.cells arr e' (arr.size, arr.size + 1)) := by
        unfold World.freeze World.put
        simp only [Nat.one_ne_zero, if_false]
        congr 1
        have he := (Array.getElem?_eq_some_iff.1 hh).2
        apply Array.ext
        · simp
        · intro j h1 h2
          rw [Array.getElem_modify, Array.getElem_setIfInBounds (by simpa using h2)]
          by_cases ej : E.blk b = j
          · subst ej
            simp only [if_true, he]
            cases bk with
            | rw => simp only [marks] at hm; subst hm; simp
            | mark => simp only [marks] at hm; subst hm; simp
            | any => simp only [marks] at hm; rcases hm with hm | hm <;> subst hm <;> simp
            | ro => exact absurd rfl hro
          · simp [ej]
      refine ⟨by simp, _, ?_, H.put hcs hnr ⟨arr, (arr.size, arr.size + 1), rfl, hpre, hsz, rfl⟩, H.kept_put hcs hnr _⟩
      simp only [conc]
      unfold Go.convert
      have hshape : w.shape? (E.blk b) = some (e', arr.size) := by simp [World.shape?, hh]
      simp only [Sem.run_bind, underlying, run_program, Result.andThen_ok, hPa, hPe, Sem.run_pure, beq_self_eq_true, markStringish, run_shape, hshape, run_freeze, hfz]
    · cases hc
  · cases hc
end
end Go.Am
