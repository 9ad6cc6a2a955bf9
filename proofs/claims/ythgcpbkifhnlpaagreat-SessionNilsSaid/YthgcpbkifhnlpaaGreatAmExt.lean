/- An evaluator over abstract values, proved sound over the model's machine; no condition. Part: Ext. -/
import Derived.Test.YthgcpbkifhnlpaaGreatAmDraw15
import Derived.Laws.Externs
set_option linter.unusedSimpArgs false
set_option linter.unusedVariables false
set_option linter.unusedSectionVars false
set_option linter.deprecated false
namespace Go.Am
open Go.RowKit

/-- What stands behind a tag. -/
def extFn (tag : Nat) (fn : Func) : Array Value → Sem Value :=
  match tag with
  | 1 => Extern.BytealgCompare.compare
  | 2 => Extern.AbiNoEscape.same
  | 3 => Extern.BytealgMakeNoZero.makeNoZero fn.params fn.resultTypes
  | _ => Extern.SlicesOverlaps.overlaps fn.params fn.resultTypes
def ExtTab (P : Program) (tab : Tab) : Prop := ∀ f tag fn, tab.ext.get f = some tag → tab.fns.get f = some fn → Extern.findNext fn = none ∧ Extern.find fn = some (extFn tag fn)

theorem mnz_def (ps rs : Array TypeId) (n : Int) : Extern.BytealgMakeNoZero.makeNoZero ps rs #[.int .i64 n] = (do
    let some t := rs[0]? | stuck "bytealg.MakeNoZero: no result type"
    let .slice elem ← underlying t | stuck "bytealg.MakeNoZero: slice type expected"
    if n < 0 || n > 2 ^ 48 then runtimePanic (.error "makeslice: len out of range")
    let cap ← choose (.appendCap n.toNat 0 elem)
    askRoom cap
    let bytes ← choose (.extern "internal/bytealg.MakeNoZero.bytes" 0)
    let a ← Go.newRow elem (Extern.BytealgMakeNoZero.digits cap bytes #[])
    pure (.slice (some a) n.toNat cap)) := rfl
theorem ov_def (ps rs : Array TypeId) (a b : Option Addr) (la lb ca cb : Nat) : Extern.SlicesOverlaps.overlaps ps rs #[.slice a la ca, .slice b lb cb] = (do
    let some t := ps[0]? | stuck "slices.overlaps: no parameter types"
    let .slice elem ← underlying t | stuck "slices.overlaps: slice type expected"
    let size ← sizeOf elem
    match a, b with
    | some a, some b =>
      if la = 0 ∨ lb = 0 ∨ size = 0 then pure (.bool false)
      else if a.block != b.block && (← Go.frozen a) && (← Go.frozen b) then unsupported .addressObserved
      else do
        if a.block != b.block then do
          noView a; noView b
          if ← mayBeOne a b then return .bool ((← choose (.extern "sameAddr.stringBytes" 2)) == 1)
        pure (.bool (a.block == b.block && a.off < b.off + lb * size && b.off < a.off + la * size))
    | _, _ => pure (.bool false)) := rfl
theorem digits_size : ∀ (n t : Nat) (acc : Array Value), (Extern.BytealgMakeNoZero.digits n t acc).size = acc.size + n := by
  intro n
  induction n with
  | zero => intro t acc; rfl
  | succ n ih => intro t acc; simp only [Extern.BytealgMakeNoZero.digits, ih, Array.size_push]; omega

section
variable {P : Program} {tab : Tab} (ok : TabOK P tab) (het : ExtTab P tab)
include ok het
theorem ext_ok : ExtOK P tab := by
  intro f fn args h v h' hfn hb hx w
  have hP := ok.fns f fn hfn
  unfold externAt at hx
  split at hx
  · rename_i tag htag
    obtain ⟨hn, he⟩ := het f tag fn htag hfn
    have hrun : ∀ a (w : World), (callFunc f a).run P w = ((extFn tag fn a).run P w).andThen fun v w' => .ok (.value v) w' := fun a w => run_callFunc_extern hP (ok.nng f fn hfn) (by rw [hb]; rfl) hn he a w
    unfold extern at hx
    split at hx
    · cases hx
      refine ⟨(0, 0), fun E K H _ => ⟨by omega, w, ?_, H, Kept.refl K w⟩⟩
      rw [hrun]
      rfl
    · cases hx
      refine ⟨(0, 0), fun E K H _ => ⟨by omega, w, ?_, H, Kept.refl K w⟩⟩
      rw [hrun]
      rfl
    · -- MakeNoZero
      rename_i n
      obtain ⟨t, ht, hx1⟩ := R.bind_ok.1 hx
      obtain ⟨d, hd, hx2⟩ := R.bind_ok.1 hx1
      have hPt := ok.und t d (R.of_ok.1 hd)
      have ht := R.of_ok.1 ht
      split at hx2
      · rename_i e
        obtain ⟨z, hz, hx2'⟩ := R.bind_ok.1 hx2
        obtain ⟨_, hle, hx3⟩ := R.bind_ok.1 hx2'
        obtain ⟨⟨h1, b⟩, hrow, hx4⟩ := R.bind_ok.1 hx3
        cases hx4
        have hle := R.check_ok.1 hle
        simp only [Bool.and_eq_true] at hle
        have hz1 := Nat.eq_of_beq_eq_true hle.2
        have hle := Nat.le_of_ble_eq_true hle.1
        subst hz1
        obtain ⟨sz, hsz, rfl, rfl⟩ := newRow_ok hrow
        rw [hz] at hsz
        cases hsz
        refine ⟨(w.heap.size, grownCap w n 0 e), fun E K H hE => ?_⟩
        obtain ⟨hE1, hE2⟩ := hE (by simp)
        simp only at hE1 hE2
        refine ⟨by simp, w.drew.drew.alloc (.cells (Extern.BytealgMakeNoZero.digits (grownCap w n 0 e) ((Question.extern "internal/bytealg.MakeNoZero.bytes" 0).cut (w.drew.tape w.drew.drawn (.extern "internal/bytealg.MakeNoZero.bytes" 0))) #[]) e), ?_, ?_, ?_⟩
        · rw [hrun]
          have h1 : ¬ ((n : Int) < 0) := by omega
          have h2 : ¬ ((n : Int) > 2 ^ 48) := by
            have : (2 : Int) ^ 48 = 281474976710656 := by decide
            rw [this]; omega
          have hq : (Question.appendCap n 0 e).cut (w.tape w.drawn (.appendCap n 0 e)) = grownCap w n 0 e := rfl
          have hor : ((decide ((n : Int) < 0)) || (decide ((n : Int) > 2 ^ 48))) = false := by rw [decide_eq_false h1, decide_eq_false h2]; rfl
          show (((Extern.BytealgMakeNoZero.makeNoZero fn.params fn.resultTypes #[.int .i64 (n : Int)]).run P w).andThen fun v w' => .ok (Next.value v) w') = _
          rw [mnz_def]
          simp only [ht, Sem.run_bind, underlying, run_program, Result.andThen_ok, hPt, Sem.run_pure, hor, Bool.false_eq_true, if_false, run_choose, Question.forced, Int.toNat_natCast, hq, World.drew_eq, run_askRoom, run_newRow]
          simp [conc, Cap.val, hE1, hE2]
        · exact H.drew.drew.new (by simpa using hE1) ⟨_, _, rfl, ⟨_, rfl⟩, by simp [digits_size, hE2], rfl⟩
        · exact ((Kept.drew K w).trans (Kept.drew K w.drew)).trans (Kept.alloc (by simpa using H.kb) _)
      · cases hx2
    · -- overlaps
      rename_i x y
      obtain ⟨t, ht, hx1⟩ := R.bind_ok.1 hx
      obtain ⟨d, hd, hx2⟩ := R.bind_ok.1 hx1
      have hPt := ok.und t d (R.of_ok.1 hd)
      have ht := R.of_ok.1 ht
      split at hx2
      · rename_i e
        obtain ⟨sz, hsz, hx3⟩ := R.bind_ok.1 hx2
        obtain ⟨_, hck, hx4⟩ := R.bind_ok.1 hx3
        clear hx hx1 hx2 hx3
        have hs0 : sz ≠ 0 := by
          intro e; subst e; simp [R.check] at hck
        have hnone : ∀ (E : Env) (a b : Option Addr) (la lb ca cb : Nat), (a = none ∨ b = none) → ((extFn 4 fn #[.slice a la ca, .slice b lb cb]).run P w) = .ok (.bool false) w := by
          intro E a b la lb ca cb hab
          show (Extern.SlicesOverlaps.overlaps fn.params fn.resultTypes #[.slice a la ca, .slice b lb cb]).run P w = _
          rw [ov_def]
          simp only [ht, Sem.run_bind, underlying, run_program, Result.andThen_ok, hPt, Sem.run_pure, siz_run ok hsz]
          rcases hab with rfl | rfl
          · rfl
          · cases a <;> rfl
        split at hx4
        · cases hx4
          refine ⟨(0, 0), fun E K H _ => ⟨by omega, w, ?_, H, Kept.refl K w⟩⟩
          rw [hrun]
          simp only [concL_cons, concL_nil, conc]
          rw [hnone E _ _ _ _ _ _ (.inl rfl)]
          rfl
        · cases hx4
          refine ⟨(0, 0), fun E K H _ => ⟨by omega, w, ?_, H, Kept.refl K w⟩⟩
          rw [hrun]
          simp only [concL_cons, concL_nil, conc]
          rw [hnone E _ _ _ _ _ _ (.inl rfl)]
          rfl
        · cases hx4
          refine ⟨(0, 0), fun E K H _ => ⟨by omega, w, ?_, H, Kept.refl K w⟩⟩
          rw [hrun]
          simp only [concL_cons, concL_nil, conc]
          rw [hnone E _ _ _ _ _ _ (.inr rfl)]
          rfl
        · rename_i a i n ca b j m cb
          split at hx4
          · rename_i ha hb'
            have hsame : h' = h := by
              cases hc : (Nat.beq n 0 || Nat.beq m 0) <;> rw [hc] at hx4 <;> cases hx4 <;> rfl
            subst hsame
            refine ⟨(0, 0), fun E K H _ => ⟨by omega, w, ?_, H, Kept.refl K w⟩⟩
            rw [hrun]
            simp only [concL_cons, concL_nil, conc]
            have hgo : ((extFn 4 fn #[.slice (some ⟨E.blk a, i, none⟩) n (ca.val (E.cap a)), .slice (some ⟨E.blk b, j, none⟩) m (cb.val (E.cap b))]).run P w) = .ok (conc E v) w := by
              show (Extern.SlicesOverlaps.overlaps fn.params fn.resultTypes #[.slice (some ⟨E.blk a, i, none⟩) n (ca.val (E.cap a)), .slice (some ⟨E.blk b, j, none⟩) m (cb.val (E.cap b))]).run P w = _
              rw [ov_def]
              simp only [ht, Sem.run_bind, underlying, run_program, Result.andThen_ok, hPt, Sem.run_pure, siz_run ok hsz]
              by_cases hz : n = 0 ∨ m = 0
              · rw [if_pos (by rcases hz with h | h <;> simp [h])]
                have : (Nat.beq n 0 || Nat.beq m 0) = true := by
                  rcases hz with rfl | rfl <;> simp
                rw [this] at hx4
                cases hx4
                rfl
              · rw [if_neg (by omega)]
                have h1 : Nat.beq n 0 = false := by
                  cases hb : Nat.beq n 0
                  · rfl
                  · exact absurd (.inl (Nat.eq_of_beq_eq_true hb)) hz
                have h2 : Nat.beq m 0 = false := by
                  cases hb : Nat.beq m 0
                  · rfl
                  · exact absurd (.inr (Nat.eq_of_beq_eq_true hb)) hz
                rw [h1, h2] at hx4
                cases hx4
                have hfa := rw_frozen H ha i
                have hfb := rw_frozen H hb' j
                have hfrz : (Go.frozen ⟨E.blk a, i, none⟩).run P w = .ok false w := by simp [Go.frozen, Sem.run, hfa]
                by_cases hab : a = b
                · subst hab
                  simp [conc]
                  congr 1 <;> (rw [Bool.eq_iff_iff]; simp)
                · have hne : E.blk a ≠ E.blk b := fun e => hab (H.inj a b _ _ ha hb' (by simp [AO.ro]) e)
                  have hb0 : Nat.beq a b = false := by
                    cases hb : Nat.beq a b
                    · rfl
                    · exact absurd (Nat.eq_of_beq_eq_true hb) hab
                  simp [conc, hne, hb0, hfrz, noView_run H ha, noView_run H hb', mayBeOne_run H ha hb']
            rw [hgo]
            rfl
          · cases hx4
        · cases hx4
      · cases hx2
    · cases hx
  · cases hx
end
end Go.Am
