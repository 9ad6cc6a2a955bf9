/- An evaluator over abstract values, proved sound over the model's machine; no condition. Part: Ops4. -/
import Derived.Test.YthgcpbkifhnlpaaGreatAmOps3
set_option linter.unusedSimpArgs false
set_option linter.unusedVariables false
set_option linter.unusedSectionVars false
set_option linter.deprecated false
namespace Go.Am
open Go.RowKit

section
variable {P : Program} {tab : Tab} (ok : TabOK P tab) {E : Env} {h : AH} {K : Nat → Prop} {w : World}

/-! ## Slices -/
def OptV (o : Option Value) (d n : Nat) : Prop :=
  match o with
  | none => n = d
  | some v => ∃ k, v = .int k (n : Int)

theorem sliceBound_run (k : IntKind) (n y : Nat) (code : BoundsCode) (hn : n ≤ y) : (Instr.sliceBound (.int k (n : Int)) y code).run P w = .ok n w := by
  have := run_sliceBound (P := P) w k (n : Int) y code (by omega) (by omega)
  simpa using this

theorem sliceBounds_run {isSlice : Bool} {len cap l u m : Nat} {lo hi mx : Option Value} (hl : OptV lo 0 l) (hu : OptV hi len u) (hm : OptV mx cap m)
    (hs : mx = none ∨ ∃ v, hi = some v) (h1 : l ≤ u) (h2 : u ≤ m) (h3 : m ≤ cap) : (Instr.sliceBounds isSlice len cap lo hi mx).run P w = .ok (l, u, m) w := by
  unfold Instr.sliceBounds
  cases mx with
  | none =>
    simp only [OptV] at hm
    subst hm
    cases hi with
    | none =>
      simp only [OptV] at hu
      subst hu
      cases lo with
      | none => simp only [OptV] at hl; subst hl; simp
      | some v => obtain ⟨k, rfl⟩ := hl; simp [sliceBound_run k l u _ h1]
    | some v =>
      obtain ⟨k, rfl⟩ := hu
      cases lo with
      | none => simp only [OptV] at hl; subst hl; simp [sliceBound_run k u m _ h2]
      | some v => obtain ⟨k', rfl⟩ := hl; simp [sliceBound_run k u m _ h2, sliceBound_run k' l u _ h1]
  | some v =>
    obtain ⟨km, rfl⟩ := hm
    obtain ⟨v', rfl⟩ := hs.resolve_left (by simp)
    obtain ⟨k, rfl⟩ := hu
    cases lo with
    | none => simp only [OptV] at hl; subst hl; simp [sliceBound_run km m cap _ h3, sliceBound_run k u m _ h2]
    | some v => obtain ⟨k', rfl⟩ := hl; simp [sliceBound_run km m cap _ h3, sliceBound_run k u m _ h2, sliceBound_run k' l u _ h1]

theorem optNat_ok {ts : T AV} {ρ : Operand → Value} (hρ : ∀ x v, ev ts x = .ok v → ρ x = conc E v) {d : R Nat} {dn : Nat} (hd : d = .ok dn) {o : Option Operand} {n : Nat}
    (hn : optNat ts d o = .ok n) : OptV (o.map ρ) dn n := by
  cases o with
  | none => simp only [optNat] at hn; rw [hd] at hn; cases hn; exact rfl
  | some x =>
    simp only [optNat] at hn
    obtain ⟨v, hv, hn⟩ := R.bind_ok.1 hn
    obtain ⟨k, rfl⟩ := asNat_ok hn
    exact ⟨k, by rw [hρ x _ hv]; rfl⟩

theorem extract_mk (s : List UInt8) (l u : Nat) : (⟨s.toArray⟩ : ByteArray).extract l u = ⟨((s.drop l).take (u - l)).toArray⟩ := by
  apply ByteArray.ext
  simp [ByteArray.data_extract, List.extract_eq_take_drop]

theorem capLow_ok (H : HOK E h K w) {b c : Nat} {cap : Cap} (hc : capLow h b cap = .ok c) : c ≤ cap.val (E.cap b) := by
  cases cap with
  | lit n => simp only [capLow] at hc; cases hc; exact Nat.le_refl _
  | tail k =>
    simp only [capLow] at hc
    obtain ⟨⟨cs, e, sz, ext, bk⟩, h1, hc⟩ := R.bind_ok.1 hc
    obtain ⟨_, h2, hc⟩ := R.bind_ok.1 hc
    cases hc
    have h2 := R.check_ok.1 h2
    simp only [Bool.and_eq_true] at h2
    obtain ⟨hx, hz⟩ := h2
    have hz0 : 0 < sz := Nat.pos_of_ne_zero (by rintro rfl; simp at hz)
    obtain ⟨arr, fz, _, ⟨rest, harr⟩, hsz, _⟩ := H.cells (cellsAt_ok h1)
    rw [if_pos hx] at hsz
    have hl := congrArg List.length harr
    simp at hl
    have : cs.length / sz ≤ E.cap b := by
      rw [Nat.div_le_iff_le_mul_add_pred hz0]
      have : cs.length ≤ E.cap b * sz := by omega
      rw [Nat.mul_comm] at this
      omega
    show cs.length / sz - k ≤ E.cap b - k
    omega

include ok
theorem sliceOp_run (H : HOK E h K w) {ts : T AV} {ρ : Operand → Value} (hρ : ∀ x v, ev ts x = .ok v → ρ x = conc E v) {t : TypeId} {x v : AV} {h' : AH} {lo hi mx : Option Operand}
    (hs : sliceOp tab ts h t x lo hi mx = .ok (v, h')) :
    h' = h ∧ (Instr.sliceAt t (conc E x) (lo.map ρ) (hi.map ρ) (mx.map ρ)).run P w = .ok (conc E v) w := by
  unfold sliceOp at hs
  obtain ⟨d, hd, hs⟩ := R.bind_ok.1 hs
  have hP := ok.und t d (R.of_ok.1 hd)
  split at hs
  · rename_i s _
    obtain ⟨_, hm, hs⟩ := R.bind_ok.1 hs
    obtain ⟨l, hl, hs⟩ := R.bind_ok.1 hs
    obtain ⟨u, hu, hs⟩ := R.bind_ok.1 hs
    obtain ⟨_, hb, hs⟩ := R.bind_ok.1 hs
    cases hs
    have hm := R.check_ok.1 hm
    cases mx with
    | some x => simp at hm
    | none =>
      have hb := R.check_ok.1 hb
      rw [Bool.and_eq_true] at hb
      have hb1 := Nat.le_of_ble_eq_true hb.1
      have hb2 := Nat.le_of_ble_eq_true hb.2
      refine ⟨rfl, ?_⟩
      rw [run_sliceAt_string (P := P) w t _ _ _ _ hP]
      unfold Instr.slice
      simp only [Sem.run_bind, underlying, run_program, Result.andThen_ok, hP, Sem.run_pure, conc, Option.map_none, Option.isSome_none, Bool.false_eq_true, if_false, size_mk]
      rw [sliceBounds_run (optNat_ok hρ rfl hl) (optNat_ok hρ rfl hu) (show OptV none s.length s.length from rfl) (.inl rfl) hb1 hb2 (Nat.le_refl _)]
      simp [extract_mk]
  · rename_i e _
    have hel : P.elem t = e := by simp [Program.elem, hP]
    obtain ⟨n, hn, hs⟩ := R.bind_ok.1 hs
    obtain ⟨l, hl, hs⟩ := R.bind_ok.1 hs
    obtain ⟨u, hu, hs⟩ := R.bind_ok.1 hs
    obtain ⟨m, hm, hs⟩ := R.bind_ok.1 hs
    obtain ⟨_, hb, hs⟩ := R.bind_ok.1 hs
    cases hs
    have hb := R.check_ok.1 hb
    simp only [Bool.and_eq_true, Bool.or_eq_true] at hb
    have hb1 := Nat.eq_of_beq_eq_true hb.1.1.1
    have hb2 := Nat.eq_of_beq_eq_true hb.1.1.2
    have hb3 := Nat.eq_of_beq_eq_true hb.1.2
    subst hb1 hb2 hb3
    refine ⟨rfl, ?_⟩
    have hmx : mx.map ρ = none ∨ ∃ v, hi.map ρ = some v := by
      rcases hb.2 with h | h
      · left; cases mx <;> simp_all
      · right; cases hi <;> simp_all
    rw [run_sliceAt_slice (P := P) w t _ _ _ _ (by rw [hel]; exact hP)]
    simp only [conc]
    rw [run_slice_any (P := P) w t none 0 0 (by rw [hel]; exact hP), hel,
      sliceBounds_run (optNat_ok hρ rfl hl) (optNat_ok hρ rfl hu) (optNat_ok hρ rfl hm) hmx (Nat.le_refl _) (Nat.le_refl _) (Nat.le_refl _), Result.andThen_ok, siz_run ok hn]
    simp [sliced]
  · rename_i e b off len cap _
    have hel : P.elem t = e := by simp [Program.elem, hP]
    obtain ⟨c, hc, hs⟩ := R.bind_ok.1 hs
    obtain ⟨n, hn, hs⟩ := R.bind_ok.1 hs
    obtain ⟨l, hl, hs⟩ := R.bind_ok.1 hs
    obtain ⟨u, hu, hs⟩ := R.bind_ok.1 hs
    have hcap := capLow_ok H hc
    have hgo : ∀ m, OptV (mx.map ρ) (cap.val (E.cap b)) m → (mx.map ρ = none ∨ ∃ v, hi.map ρ = some v) → l ≤ u → u ≤ m → m ≤ cap.val (E.cap b) →
        (Instr.sliceAt t (conc E (.sl b off len cap)) (lo.map ρ) (hi.map ρ) (mx.map ρ)).run P w =
          .ok (.slice (some ⟨E.blk b, if m = l then off else off + l * n, none⟩) (u - l) (m - l)) w := by
      intro m hm hmx h1 h2 h3
      rw [run_sliceAt_slice (P := P) w t _ _ _ _ (by rw [hel]; exact hP)]
      simp only [conc]
      rw [run_slice_any (P := P) w t _ _ _ (by rw [hel]; exact hP), hel,
        sliceBounds_run (optNat_ok hρ rfl hl) (optNat_ok hρ rfl hu) hm hmx h1 h2 h3, Result.andThen_ok, siz_run ok hn, Result.andThen_ok]
      simp only [sliced]
      by_cases e : m = l
      · simp [e]
      · simp [e, add_lit]
    split at hs
    · obtain ⟨m, hm, hs⟩ := R.bind_ok.1 hs
      obtain ⟨_, hb, hs⟩ := R.bind_ok.1 hs
      cases hs
      have hb := R.check_ok.1 hb
      simp only [Bool.and_eq_true] at hb
      have hb1 := Nat.le_of_ble_eq_true hb.1.1.1
      have hb2 := Nat.le_of_ble_eq_true hb.1.1.2
      have hb3 := Nat.le_of_ble_eq_true hb.1.2
      refine ⟨rfl, ?_⟩
      have hm' : OptV (Option.map ρ (some ‹Operand›)) (cap.val (E.cap b)) m := by
        have := optNat_ok hρ rfl hm
        exact this
      rw [hgo m hm' (.inr (by cases hi <;> simp_all)) hb1 hb2 (by omega)]
      simp only [conc, Cap.val]
      by_cases e : m = l
      · simp [e]
      · have : Nat.beq m l = false := Bool.eq_false_iff.2 (fun h => e (Nat.eq_of_beq_eq_true h))
        simp [e, this]
    · cases cap with
      | lit m =>
        obtain ⟨_, hb, hs⟩ := R.bind_ok.1 hs
        cases hs
        have hb := R.check_ok.1 hb
        simp only [Bool.and_eq_true] at hb
        have hb1 := Nat.le_of_ble_eq_true hb.1
        have hb2 := Nat.le_of_ble_eq_true hb.2
        refine ⟨rfl, ?_⟩
        rw [hgo m rfl (.inl rfl) hb1 hb2 (Nat.le_refl _)]
        simp only [conc, Cap.val]
        by_cases e : m = l
        · simp [e]
        · have : Nat.beq m l = false := Bool.eq_false_iff.2 (fun h => e (Nat.eq_of_beq_eq_true h))
          simp [e, this]
      | tail k =>
        obtain ⟨_, hb, hs⟩ := R.bind_ok.1 hs
        have hb := R.check_ok.1 hb
        simp only [Bool.and_eq_true] at hb
        have hb1 := Nat.le_of_ble_eq_true hb.1
        have hb2 := Nat.le_of_ble_eq_true hb.2
        have hcap' : c ≤ E.cap b - k := hcap
        have hgo' := hgo (E.cap b - k) rfl (.inl rfl) hb1 (by omega) (Nat.le_refl _)
        by_cases h0 : Nat.beq l 0 = true
        · rw [h0] at hs
          cases hs
          have := Nat.eq_of_beq_eq_true h0
          subst this
          refine ⟨rfl, ?_⟩
          rw [hgo']
          simp [conc, Cap.val]
        · have h0' : Nat.beq l 0 = false := Bool.eq_false_iff.2 h0
          rw [h0'] at hs
          by_cases h1 : Nat.blt l c = true
          · simp only [cond_false, h1, cond_true] at hs
            cases hs
            have hlt : l < c := Nat.le_of_ble_eq_true h1
            refine ⟨rfl, ?_⟩
            rw [hgo']
            simp only [conc, Cap.val]
            rw [if_neg (by omega)]
            congr 2
            omega
          · have h1' : Nat.blt l c = false := Bool.eq_false_iff.2 h1
            simp only [cond_false, h1'] at hs
            cases hs
            have hge : ¬ l < c := fun h => h1 (Nat.ble_eq_true_of_le h)
            refine ⟨rfl, ?_⟩
            rw [hgo']
            simp only [conc]
            congr 2
            omega
  · cases hs
end
end Go.Am
