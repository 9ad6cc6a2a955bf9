/- An evaluator over abstract values, proved sound over the model's machine; no condition. Part: Ops9. -/
import Derived.Test.YthgcpbkifhnlpaaGreatAmOps8
set_option linter.unusedSimpArgs false
set_option linter.unusedVariables false
set_option linter.unusedSectionVars false
set_option linter.deprecated false
namespace Go.Am
open Go.RowKit

section
variable {P : Program} {tab : Tab} (ok : TabOK P tab) {E : Env} {h : AH} {K : Nat → Prop} {w : World}

theorem liesAt_head {e count s : Nat} (hs : P.cellsOf e = s) (h0 : s ≠ 0) (hl : 1 ≤ count) : liesAt P P.depth e count 0 e 1 = true := by
  obtain ⟨d, hd⟩ := depth_pos P
  have h1 : sameLayout P P.depth e e = true := by
    rw [hd]; simp [sameLayout]
  have h2 : rowAt P (sameLayout P P.depth · e) P.depth e count 0 1 = true := by
    conv => lhs; arg 3; rw [hd]
    unfold rowAt
    simp [hs, h0, h1, hl]
  conv => lhs; arg 2; rw [hd]
  unfold liesAt
  simp only [Bool.or_eq_true]
  exact Or.inl h2

include ok
theorem convertTo_run (H : HOK E h K w) {src dst t : TypeId} (hs : P.underlying src = some (.pointer t)) (hd : P.underlying dst = some .unsafePointer) {x v : AV} {h' : AH}
    (hc : convertTo tab h t x = .ok (v, h')) : h' = h ∧ (Go.convert src dst (conc E x)).run P w = .ok (conc E v) w := by
  unfold convertTo at hc
  split at hc
  · cases hc
    refine ⟨rfl, ?_⟩
    simp [Go.convert, Conv.unsafePointer, underlying, hs, hd, conc]
  · rename_i b off
    obtain ⟨⟨cs, e, sz, ext, bk⟩, hca, hc1⟩ := R.bind_ok.1 hc
    obtain ⟨n, hn, hc2⟩ := R.bind_ok.1 hc1
    obtain ⟨_, hck, hc3⟩ := R.bind_ok.1 hc2
    clear hc hc1 hc2
    cases hc3
    refine ⟨rfl, ?_⟩
    have hck := R.check_ok.1 hck
    simp only [Bool.and_eq_true, Bool.not_eq_true', Nat.blt_eq] at hck
    have hn0 : n ≠ 0 := by
      intro e; subst e; simp at hck
    have hlt : off < cs.length := by simpa using hck.2
    obtain ⟨arr, fz, hw, ⟨rest, hrest⟩, hext, hmk⟩ := H.cells (cellsAt_ok hca)
    have hsz : cs.length ≤ arr.size := by
      have := congrArg List.length hrest
      simp at this
      omega
    obtain ⟨i, hi, hin⟩ := ok.siz t n (R.of_ok.1 hn)
    have : ¬ (arr.size ≤ off) := by omega
    simp [Go.convert, Conv.unsafePointer, Conv.seenAt, viewAt, cellsIn, World.shape?, hw, underlying, hs, hd, conc, sizeOf, typeInfo, hi, hin, hn0, this]
  · cases hc

theorem convertFrom_run (H : HOK E h K w) {src dst u : TypeId} (hs : P.underlying src = some .unsafePointer) (hd : P.underlying dst = some (.pointer u)) {x v : AV} {h' : AH}
    (hc : convertFrom tab h u x = .ok (v, h')) : h' = h ∧ (Go.convert src dst (conc E x)).run P w = .ok (conc E v) w := by
  unfold convertFrom at hc
  split at hc
  · cases hc
    refine ⟨rfl, ?_⟩
    simp [Go.convert, Conv.unsafePointer, underlying, hs, hd, conc]
  · rename_i b off
    obtain ⟨⟨cs, e, sz, ext, bk⟩, hca, hc1⟩ := R.bind_ok.1 hc
    obtain ⟨n, hn, hc2⟩ := R.bind_ok.1 hc1
    obtain ⟨_, hck, hc3⟩ := R.bind_ok.1 hc2
    clear hc hc1 hc2
    cases hc3
    refine ⟨rfl, ?_⟩
    have hck := R.check_ok.1 hck
    simp only [Bool.and_eq_true, Bool.not_eq_true'] at hck
    obtain ⟨⟨⟨he, hn1⟩, ho⟩, hle⟩ := hck
    have hn0 : n ≠ 0 := by
      intro e; subst e; simp at hn1
    have he := Nat.eq_of_beq_eq_true he
    have ho := Nat.eq_of_beq_eq_true ho
    have hle := Nat.le_of_ble_eq_true hle
    try simp only at he hle
    subst he ho
    obtain ⟨arr, fz, hw, ⟨rest, hrest⟩, hext, hmk⟩ := H.cells (cellsAt_ok hca)
    have hsz : cs.length ≤ arr.size := by
      have := congrArg List.length hrest
      simp at this
      omega
    obtain ⟨i, hi, hin⟩ := ok.siz e n (R.of_ok.1 hn)
    have hcells : P.cellsOf e = n := by simp [Program.cellsOf, hi, hin]
    have h1 : 1 ≤ arr.size / n := by
      rw [Nat.le_div_iff_mul_le (by omega)]; omega
    have hl := liesAt_head (P := P) hcells hn0 h1
    simp [Go.convert, Conv.unsafePointer, Conv.seenAt, viewAt, World.shape?, hw, underlying, hs, hd, conc, sizeOf, typeInfo, hi, hin, hn0, variablesAt, hcells, hl]
  · cases hc

theorem convertAll_run (H : HOK E h K w) {src dst : TypeId} {x v : AV} {h' : AH} (hc : convertAll tab h src dst x = .ok (v, h'))
    (hE : h.next < h'.next → E.blk h.next = w.heap.size ∧ E.cap h.next = grownCap w (strLen x) 0 (P.elem dst)) :
    (h.next ≤ h'.next ∧ h'.next ≤ h.next + 1) ∧ ∃ w', (Go.convert src dst (conc E x)).run P w = .ok (conc E v) w' ∧ HOK E h' K w' ∧ Kept K w w' := by
  unfold convertAll at hc
  obtain ⟨d, hd, hc1⟩ := R.bind_ok.1 hc
  have hPd := ok.und dst d (R.of_ok.1 hd)
  split at hc1
  · obtain ⟨s, hs, hc2⟩ := R.bind_ok.1 hc1
    have hPs := ok.und src s (R.of_ok.1 hs)
    split at hc2
    · obtain ⟨h1, h2⟩ := convertTo_run ok H hPs hPd hc2
      subst h1
      exact ⟨by omega, w, h2, H, Kept.refl K w⟩
    · cases hc2
  · obtain ⟨s, hs, hc2⟩ := R.bind_ok.1 hc1
    have hPs := ok.und src s (R.of_ok.1 hs)
    split at hc2
    · obtain ⟨h1, h2⟩ := convertFrom_run ok H hPs hPd hc2
      subst h1
      exact ⟨by omega, w, h2, H, Kept.refl K w⟩
    · cases hc2
  · exact convert_run ok H hc1 hE
end
end Go.Am
