/- An evaluator over abstract values, proved sound over the model's machine; no condition. Part: Ops1. -/
import Derived.Test.YthgcpbkifhnlpaaGreatAmMem
set_option linter.unusedSimpArgs false
set_option linter.unusedVariables false
set_option linter.unusedSectionVars false
set_option linter.deprecated false
namespace Go.Am
open Go.RowKit

def Yields (r : Next) (x : Value) : Prop := r = .value x ∨ (r = .skip ∧ x = undef)

section
variable {P : Program} {tab : Tab} (ok : TabOK P tab) {E : Env} {h : AH} {K : Nat → Prop} {w : World}
include ok

theorem loadVar_run (H : HOK E h K w) {t : TypeId} {b off : Nat} {v : AV} (hl : loadVar tab h t b off = .ok v) :
    (Go.loadVar t ⟨E.blk b, off, none⟩).run P w = .ok (conc E v) w := by
  unfold loadVar at hl
  obtain ⟨g, hg, hl⟩ := R.bind_ok.1 hl
  unfold Go.loadVar
  rw [Sem.run_bind, isAgg_run ok hg, Result.andThen_ok]
  cases g with
  | true =>
    simp only [if_true] at hl ⊢
    obtain ⟨n, hn, hl⟩ := R.bind_ok.1 hl
    obtain ⟨cs, hc, hl⟩ := R.bind_ok.1 hl
    cases hl
    rw [Sem.run_bind, siz_run ok hn, Result.andThen_ok, Sem.run_bind, H.run_readN hc]
    simp [conc]
  | false =>
    simp only [Bool.false_eq_true, if_false] at hl ⊢
    obtain ⟨⟨cs, e, sz, ext, bk⟩, hc, hl⟩ := R.bind_ok.1 hl
    have hl := R.of_ok.1 hl
    rw [run_load, H.cell (cellsAt_ok hc) hl]

omit ok in
theorem writeN_next {b off : Nat} {vs : List AV} {h' : AH} (hw : writeN h b off vs = .ok h') : h'.next = h.next := by
  unfold writeN at hw
  split at hw
  · cases hw; rfl
  · obtain ⟨⟨cs, e, sz, ext, bk⟩, hc, hw⟩ := R.bind_ok.1 hw
    obtain ⟨_, _, hw⟩ := R.bind_ok.1 hw
    obtain ⟨_, _, hw⟩ := R.bind_ok.1 hw
    obtain ⟨_, _, hw⟩ := R.bind_ok.1 hw
    cases hw; rfl

omit ok in
theorem marks_free {bk : BK} {fz : Nat × Nat} {n : Nat} (hm : marks bk fz n) (hr : bk ≠ .ro) : ∀ j, j < n → ¬ (fz.1 ≤ j ∧ j < fz.2) := by
  intro j hj
  cases bk with
  | rw => simp only [marks] at hm; subst hm; simp
  | mark => simp only [marks] at hm; subst hm; simp; omega
  | any =>
    simp only [marks] at hm
    rcases hm with hm | hm
    · subst hm; simp
    · subst hm; simp; omega
  | ro => exact absurd rfl hr

omit ok in
theorem writeN_run (H : HOK E h K w) {b off : Nat} {vs : List AV} {h' : AH} (hw : writeN h b off vs = .ok h') :
    ∃ w', (storeCells ⟨E.blk b, off, none⟩ (concL E vs)).run P w = .ok () w' ∧ HOK E h' K w' ∧ Kept K w w' := by
  unfold writeN at hw
  split at hw
  · cases hw
    exact ⟨w, rfl, H, Kept.refl K w⟩
  · obtain ⟨⟨cs, e, sz, ext, bk⟩, hc, hw⟩ := R.bind_ok.1 hw
    obtain ⟨_, h1, hw⟩ := R.bind_ok.1 hw
    obtain ⟨_, h2, hw⟩ := R.bind_ok.1 hw
    obtain ⟨_, h3, hw⟩ := R.bind_ok.1 hw
    cases hw
    have hc := cellsAt_ok hc
    have hro : bk ≠ .ro := by simpa using R.check_ok.1 h1
    have hlen : off + vs.length ≤ cs.length := Nat.le_of_ble_eq_true (R.check_ok.1 h2)
    have hone := R.check_ok.1 h3
    obtain ⟨arr, fz, hh, ⟨rest, harr⟩, hsz, hm⟩ := H.cells hc
    have hasz : cs.length ≤ arr.size := by
      have := congrArg List.length harr
      simp at this; omega
    have hrun := run_storeCells_fz (P := P) (E.blk b) off e fz (concL E vs) 0 arr w hh (marks_free hm hro) (by simp; omega)
      (by
        intro v hv
        rw [concL_eq] at hv
        obtain ⟨u, hu, rfl⟩ := List.mem_map.1 hv
        exact oneCell_conc (List.all_eq_true.1 hone u hu))
    refine ⟨_, hrun, H.put hc (by cases bk <;> simp_all [AO.ro]) ?_, H.kept_put hc (by cases bk <;> simp_all [AO.ro]) _⟩
    refine ⟨_, fz, rfl, ⟨rest, ?_⟩, ?_, ?_⟩
    · simp only [overlay, Nat.add_zero, concL_append, concL_take, concL_drop, concL_length, harr]
      rw [List.take_append_of_le_length (by simp; omega), List.drop_append_of_le_length (by simp; omega)]
      simp
    · have e1 : (arr.toList.take (off + 0) ++ concL E vs ++ arr.toList.drop (off + 0 + (concL E vs).length)).length = arr.size := by
        simp; omega
      cases ext with
      | true => simp only [if_true] at hsz ⊢; rw [List.size_toArray, e1]; exact hsz
      | false =>
        simp only [Bool.false_eq_true, if_false] at hsz ⊢
        rw [List.size_toArray, e1, hsz]
        simp [overlay]; omega
    · have e1 : (arr.toList.take (off + 0) ++ concL E vs ++ arr.toList.drop (off + 0 + (concL E vs).length)).length = arr.size := by
        simp; omega
      rw [List.size_toArray, e1]; exact hm

theorem storeVar_run (H : HOK E h K w) {t : TypeId} {b off : Nat} {v : AV} {h' : AH} (hs : storeVar tab h t b off v = .ok h') :
    ∃ w', (Go.storeVar t ⟨E.blk b, off, none⟩ (conc E v)).run P w = .ok () w' ∧ HOK E h' K w' ∧ Kept K w w' := by
  unfold storeVar at hs
  obtain ⟨n, hn, hs⟩ := R.bind_ok.1 hs
  obtain ⟨l, hl, hs⟩ := R.bind_ok.1 hs
  obtain ⟨_, hc, hs⟩ := R.bind_ok.1 hs
  have hc := Nat.eq_of_beq_eq_true (R.check_ok.1 hc)
  obtain ⟨w', hw, H', hk⟩ := writeN_run (P := P) H hs
  refine ⟨w', ?_, H', hk⟩
  unfold Go.storeVar
  rw [Sem.run_bind, siz_run ok hn, Result.andThen_ok, cells_ok hl]
  simp only [List.size_toArray, concL_length, hc, ne_eq, not_true, if_false]
  exact hw
omit ok in
theorem storeVar_next {t : TypeId} {b off : Nat} {v : AV} {h' : AH} (hs : storeVar tab h t b off v = .ok h') : h'.next = h.next := by
  unfold storeVar at hs
  obtain ⟨n, hn, hs⟩ := R.bind_ok.1 hs
  obtain ⟨l, hl, hs⟩ := R.bind_ok.1 hs
  obtain ⟨_, hc, hs⟩ := R.bind_ok.1 hs
  exact writeN_next hs

omit ok in
theorem newRow_ok {e : TypeId} {cs : List AV} {ext : Bool} {bk : BK} {h' : AH} {b : Nat} (hn : newRow tab h e cs ext bk = .ok (h', b)) :
    ∃ n, siz tab e = .ok n ∧ h' = h.new (.cells cs e n ext bk) ∧ b = h.next := by
  unfold newRow at hn
  obtain ⟨n, h1, hn⟩ := R.bind_ok.1 hn
  cases hn
  exact ⟨n, h1, rfl, rfl⟩

omit ok in
/-- A new block of just these cells. -/
theorem new_cells (H : HOK E h K w) (hE : E.blk h.next = w.heap.size) (cs : List AV) (e : TypeId) (n : Nat) :
    HOK E (h.new (.cells cs e n false .rw)) K (w.alloc (.cells (concL E cs).toArray e)) ∧ Kept K w (w.alloc (.cells (concL E cs).toArray e)) :=
  ⟨H.new hE ⟨_, _, rfl, ⟨[], by simp⟩, by simp, rfl⟩, Kept.alloc H.kb _⟩

omit ok in
theorem run_newRow (e : TypeId) (cs : Array Value) : (Go.newRow e cs).run P w = .ok ⟨w.heap.size, 0, none⟩ (w.alloc (.cells cs e)) := by
  simp only [Go.newRow, Sem.run_bind, run_newObj, Result.andThen_ok, Sem.run_pure]; rfl

/-! ## Numbers and texts -/
omit ok in
theorem asInt_ok {v : AV} {k : IntKind} {n : Int} (ha : asInt v = .ok (k, n)) : v = .int k n := by
  cases v <;> simp only [asInt] at ha <;> cases ha
  rfl
omit ok in
theorem asNat_ok {v : AV} {n : Nat} (ha : asNat v = .ok n) : ∃ k, v = .int k (n : Int) := by
  unfold asNat at ha
  obtain ⟨⟨k, m⟩, h1, ha⟩ := R.bind_ok.1 ha
  cases m with
  | ofNat m => cases ha; exact ⟨k, asInt_ok h1⟩
  | negSucc m => cases ha

omit ok in
theorem toList_mk (l : List UInt8) : (⟨l.toArray⟩ : ByteArray).toList = l := by
  simp
omit ok in
theorem size_mk (l : List UInt8) : (⟨l.toArray⟩ : ByteArray).size = l.length := rfl
omit ok in
theorem mk_append (l m : List UInt8) : (⟨l.toArray⟩ : ByteArray) ++ ⟨m.toArray⟩ = ⟨(l ++ m).toArray⟩ := by
  apply ByteArray.ext
  simp

omit ok in
theorem intOp_run {op : BinOp} {k : IntKind} {x y : Int} {v : AV} (hi : intOp op k x y = .ok v) (t : TypeId) (hs : op ≠ .shl ∧ op ≠ .shr) :
    (Go.binOp op t (.int k x) (.int k y)).run P w = .ok (conc E v) w := by
  cases op <;> simp only [intOp] at hi <;> (try (split at hi <;> try cases hi)) <;> (try cases hi) <;>
    simp_all [Go.binOp, Op.intArith, Op.intDiv, Op.intBits, Op.intCmp, conc]

omit ok in
theorem shiftOp_run {op : BinOp} {k yk : IntKind} {x y : Int} {v : AV} (hi : shiftOp op k x y = .ok v) :
    (Op.shift op k x yk y).run P w = .ok (conc E v) w := by
  unfold shiftOp at hi
  split at hi
  · cases hi
  · rename_i hy
    cases op <;> simp only at hi <;> cases hi <;> simp [Op.shift, hy, conc]

omit ok in
theorem strOp_run {op : BinOp} {x y : List UInt8} {v : AV} (hi : strOp op x y = .ok v) :
    (Op.stringOp op ⟨x.toArray⟩ ⟨y.toArray⟩).run P w = .ok (conc E v) w := by
  cases op <;> simp only [strOp] at hi <;> (try cases hi) <;> (try simp only [Op.stringOp, toList_mk, Sem.run_pure, conc])
  split at hi
  · cases hi
    rename_i hl
    have : ¬ ((((⟨x.toArray⟩ : ByteArray).size + (⟨y.toArray⟩ : ByteArray).size : Nat) : Int) > IntKind.i64.max) := by
      rw [size_mk, size_mk]
      have : IntKind.i64.max = 9223372036854775807 := by decide
      rw [this]; omega
    simp only [if_neg this, Sem.run_pure, mk_append, conc]
  · cases hi

omit ok in
theorem unOp_run {op : UnOp} {x v : AV} (hu : unOp op x = .ok v) : (Op.unary op (conc E x)).run P w = .ok (conc E v) w := by
  cases op <;> cases x <;> simp only [unOp] at hu <;> cases hu <;> simp [Op.unary, conc, Op.intArith, Op.intBits]
end
end Go.Am
