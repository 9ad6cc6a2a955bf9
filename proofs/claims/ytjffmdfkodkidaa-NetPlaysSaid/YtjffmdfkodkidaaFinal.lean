/- Proved: NetPlays, for every input: the law answers true and its arguments read as they did. No condition. The frame began as the proof-skeleton program's print. -/
import Derived.Test.YtjffmdfkodkidaaRows
import Derived.WalkKit
import Derived.ProofKit
import Derived.OpenShut
import Derived.ShutString
import Derived.ChangeOld
import Derived.DataReads
import Derived.ChangeArms
import Derived.Below
import Derived.Test.YtjffmdfkodkidaaP7
set_option linter.unusedSimpArgs false
set_option linter.unusedVariables false
set_option linter.unusedSectionVars false
set_option linter.deprecated false
namespace Go.Proofs.Ytjffmdfkodkidaa.netPlays
open Go.ChangeShapes Go.WideShapes Go.ChangeAt Go.RowKit
open Go.ChangeMaps (open_string shut_string)
set_option linter.unusedVariables false

theorem own : ownKnob Try.prog.godebug = none := by kernel_rfl
theorem laidOut : laidOutB Try.prog = true := by kernel_rfl

section
variable {H : Type} {enc : TypeId × Value → H} {P : Program} {w : World} {base : Nat} {spare : Nat → Bool} {held : Bool}
theorem add_add (a : Addr) (i j : Nat) : (a.add i).add j = a.add (i + j) := by
  unfold Addr.add
  by_cases hi : i = 0
  · subst hi; simp
  · by_cases hj : j = 0
    · subst hj; simp [hi]
    · simp [hi, hj, Nat.add_assoc]
theorem slice_open {t e n fuel : Nat} {cs : List Value} {x : DataW H × List MemPlace} (ht : P.underlying t = some (.slice e)) (hn : P.cellsOf e = n) (hd : DataW.trod enc P w base spare held fuel t cs = some x) :
    cs = [.slice none 0 0] ∨ ∃ a len cap, cs = [.slice (some a) len cap] ∧ len ≤ cap ∧ cap ≤ maxLen ∧ ∀ i, i < len → ∃ cs' f d, DataW.trod enc P w base spare held f e cs' = some d ∧ ∀ j u, cs'[j]? = some u → j < n → w.cell? (a.add (i * n + j)) = some u := by
  rcases DataW.trod_slice ht hd with ⟨rfl, _⟩ | ⟨a, len, cap, elems, rest, m, _, rfl, _, hb, hle, hc, hel, hi, _, _⟩
  · exact .inl rfl
  · refine .inr ⟨a, len, cap, rfl, hle, hc, fun i hil => ?_⟩
    have h1 := hi i hil
    rw [List.getElem?_eq_getElem (by rw [hel]; exact hil)] at h1
    obtain ⟨cs', h2, h3⟩ := Option.bind_eq_some_iff.1 h1
    rw [hn] at h2
    refine ⟨cs', _, _, h3, fun j u hu hj => ?_⟩
    unfold World.cells? at h2
    split at h2
    · have h4 := mapM_some_get h2 j j (by simp [hj])
      rw [hu] at h4
      rw [← add_add]
      exact h4
    · cases h2
theorem spot_of {a : Addr} {u : Value} (h : w.cell? (a.add 0) = some u) : ∃ b o, a = ⟨b, o, none⟩ := by
  have := World.cell?_spot h
  obtain ⟨b, o, s⟩ := a
  obtain rfl : s = none := by simpa [Addr.add] using this
  exact ⟨b, o, rfl⟩
theorem add_lit (b o k : Nat) : (⟨b, o, none⟩ : Addr).add k = ⟨b, o + k, none⟩ := by unfold Addr.add; split <;> simp_all
theorem src_open {fuel : Nat} {cs : List Value} {x : DataW H × List MemPlace} (hd : DataW.trod enc Try.prog w base spare held fuel 22 cs = some x) : ∃ a c bs, cs = [.slice a (List.length (α := Int) bs) c] ∧ Src w (.slice a (List.length (α := Int) bs) c) bs := by
  rcases slice_open (n := 1) Try.underlying22 (by kernel_rfl) hd with rfl | ⟨a, len, cap, rfl, hle, hm, hi⟩
  · exact ⟨none, 0, [], rfl, none, 0, rfl, fun _ => rfl, fun h => absurd h (by simp)⟩
  · have each : ∀ i : Fin len, ∃ z : Int, w.cell? (a.add i.val) = some (.int .u8 z) := by
      intro i
      obtain ⟨cs', f, d, h1, h2⟩ := hi i.val i.isLt
      obtain ⟨z, rfl, _⟩ := DataW.trod_int Try.underlying5 h1
      exact ⟨z, by simpa using h2 0 _ rfl (by omega)⟩
    obtain ⟨g, hg⟩ := Classical.skolem.1 each
    have hl : (List.ofFn g).length = len := by simp
    refine ⟨some a, cap, List.ofFn g, by rw [hl], some a, cap, rfl, (fun h => by cases h), fun h0 => ?_⟩
    rw [hl] at h0
    obtain ⟨b, o, rfl⟩ := spot_of (hg ⟨0, h0⟩)
    refine ⟨b, o, rfl, fun k hk => ?_⟩
    rw [hl] at hk
    rw [← add_lit, hg ⟨k, hk⟩]
    simp [List.getD, hk]
theorem step_open {fuel : Nat} {cs : List Value} {x : DataW H × List MemPlace} (hd : DataW.trod enc Try.prog w base spare held fuel 43 cs = some x) :
    ∃ s : CStep, cs[0]? = some (.int .i64 s.K) ∧ cs[1]? = some (.int .i64 s.i) ∧ cs[2]? = some (.int .i64 s.at_) ∧ cs[3]? = some (.int .u8 s.by_) ∧ cs[4]? = some (.slice s.a s.bs.length s.c) ∧ Src w (.slice s.a s.bs.length s.c) s.bs := by
  obtain ⟨xs, n, _, _, hl, hlen, hf⟩ := DataW.trod_struct Try.underlying43 hd
  have hcells : Try.prog.cellsOf 43 = 5 := by kernel_rfl
  have hc3 : Try.prog.cellsOf 3 = 1 := by kernel_rfl
  have hc5 : Try.prog.cellsOf 5 = 1 := by kernel_rfl
  have hc22 : Try.prog.cellsOf 22 = 1 := by kernel_rfl
  rw [hcells] at hl
  obtain ⟨c0, c1, c2, c3, c4, rfl⟩ : ∃ c0 c1 c2 c3 c4, cs = [c0, c1, c2, c3, c4] := by
    match cs, hl with
    | [c0, c1, c2, c3, c4], _ => exact ⟨c0, c1, c2, c3, c4, rfl⟩
  match xs, hlen with
  | [x0, x1, x2, x3, x4], _ =>
    have e0 := hf 0 _ rfl
    have e1 := hf 1 _ rfl
    have e2 := hf 2 _ rfl
    have e3 := hf 3 _ rfl
    have e4 := hf 4 _ rfl
    simp [hc3, hc5, hc22] at e0 e1 e2 e3 e4
    obtain ⟨K, k0, _⟩ := DataW.trod_int Try.underlying3 e0
    obtain ⟨i, k1, _⟩ := DataW.trod_int Try.underlying3 e1
    obtain ⟨q, k2, _⟩ := DataW.trod_int Try.underlying3 e2
    obtain ⟨y, k3, _⟩ := DataW.trod_int Try.underlying5 e3
    obtain ⟨a, c, bs, k4, hs⟩ := src_open e4
    simp only [List.cons.injEq, and_true] at k0 k1 k2 k3 k4
    subst k0 k1 k2 k3 k4
    exact ⟨⟨K, i, q, y, a, c, bs⟩, rfl, rfl, rfl, rfl, rfl, hs⟩
theorem steps_open {fuel : Nat} {a : Option Addr} {len cap : Nat} {x : DataW H × List MemPlace} (hd : DataW.trod enc Try.prog w base spare held fuel 37 [.slice a len cap] = some x) :
    len = 0 ∨ (len ≤ 9223372036854775807 ∧ ∃ (b off : Nat) (S : Nat → CStep), a = some ⟨b, off, none⟩ ∧ ∀ j, j < len → StepAt w b (off + j * 5) (S j)) := by
  rcases slice_open (n := 5) Try.underlying37 (by kernel_rfl) hd with h | ⟨a', len', cap', h, hle, hm, hi⟩
  · simp at h
    exact .inl h.2.1
  · simp only [List.cons.injEq, Value.slice.injEq, and_true] at h
    obtain ⟨rfl, rfl, rfl⟩ := h
    by_cases h0 : len = 0
    · exact .inl h0
    · have each : ∀ i : Nat, ∃ s : CStep, i < len → w.cell? (a'.add (i * 5)) = some (.int .i64 s.K) ∧ w.cell? (a'.add (i * 5 + 1)) = some (.int .i64 s.i) ∧ w.cell? (a'.add (i * 5 + 2)) = some (.int .i64 s.at_) ∧ w.cell? (a'.add (i * 5 + 3)) = some (.int .u8 s.by_) ∧ w.cell? (a'.add (i * 5 + 4)) = some (.slice s.a s.bs.length s.c) ∧ Src w (.slice s.a s.bs.length s.c) s.bs := by
        intro i
        by_cases hil : i < len
        · obtain ⟨cs', f, d, h1, h2⟩ := hi i hil
          obtain ⟨s, s0, s1, s2, s3, s4, s5⟩ := step_open h1
          exact ⟨s, fun _ => ⟨h2 0 _ s0 (by omega), h2 1 _ s1 (by omega), h2 2 _ s2 (by omega), h2 3 _ s3 (by omega), h2 4 _ s4 (by omega), s5⟩⟩
        · exact ⟨⟨0, 0, 0, 0, none, 0, []⟩, fun h => absurd h hil⟩
      obtain ⟨S, hS⟩ := Classical.skolem.1 each
      obtain ⟨b, off, rfl⟩ := spot_of (by simpa using (hS 0 (by omega)).1)
      refine .inr ⟨by unfold maxLen at hm; omega, b, off, S, rfl, fun j hj => ?_⟩
      obtain ⟨g0, g1, g2, g3, g4, g5⟩ := hS j hj
      rw [add_lit] at g0 g1 g2 g3 g4
      exact ⟨g0, by rw [Nat.add_assoc]; exact g1, by rw [Nat.add_assoc]; exact g2, by rw [Nat.add_assoc]; exact g3, by rw [Nat.add_assoc]; exact g4, g5⟩
end
/-! ### THE ROW's STEP -/
set_option maxRecDepth 100000 in
theorem lifted (os : Os) (started : os.Started) (H : Type) (enc : TypeId × Value → H) :
    ReturnsInHanded {} Try.checked os 5 .any (Rows.netPlaysSpec.pre6 enc Try.prog Try.f5 Rows.netPlaysRow.domain false) (Rows.netPlaysSpec.post enc Try.prog Try.f5 false true false false) := by
  refine returnsInHanded_of_change (C := Try.checked) own started (by kernel_rfl) Try.func5
    (ChangeSpec.witness6 (enc := enc) (C := Try.checked) false ⟨#[], #[.slice none 0 0], []⟩ 8 (by kernel_rfl) (by kernel_rfl) (by kernel_rfl) (by kernel_rfl)) ?_
  intro W base args ds gs before hval0 hW hcnd _
  have hval : ∀ (j : Nat) t v, Try.f5.params[j]? = some t → args[j]? = some v → Value.okWide Try.prog W .any base t v := hval0
  have hW' := hW
  obtain ⟨p, q, hA0, hV, rfl, hfz, hnd⟩ := hW
  have hA : DataW.TrodAll enc Try.prog W 0 (fun _ => true) true Try.f5.params.toList args.toList ds p := hA0
  rw [Try.params5] at hA hval
  obtain ⟨v0, vs0, d0, ds0, p0, q0, hargs, rfl, rfl, h0, r0⟩ := trodAll_cons hA
  obtain ⟨rfl, rfl, rfl⟩ := trodAll_nil r0
  obtain rfl : args = #[v0] := by cases args; simp_all
  obtain ⟨rfl, rfl⟩ := trodVars_none hV
  obtain ⟨a0, len0, cap0, rfl⟩ := okWide_slice Try.underlying37 (hval 0 37 v0 rfl rfl)
  have k0 := h0
  have lt0 : ∀ x ∈ p0, x.block < W.heap.size := by obtain ⟨m, hm⟩ := k0; exact DataW.trod_lt m _ _ _ hm
  clear hA0 hval0
  have hwalk : Calls Try.prog 5 #[.slice a0 len0 cap0] W fun e w' => e = .returned (.bool true) ∧ Below W.heap.size W w' := by
    obtain ⟨fuel, hf⟩ := h0
    rcases steps_open hf with rfl | ⟨hbig, b, off, S, rfl, hS⟩
    · exact netPlays_zero W a0 cap0
    · exact netPlays_some W b off len0 cap0 S hS hbig
  refine hwalk.mono fun e W' ⟨he, bel⟩ => ?_
  subst he
  exact ⟨_, rfl, _, _, _, [], _, [], hW', trodAll_mk1 (shut_bool Try.underlying4 _), (trodAll_cons_mk (Below.trod laidOut (by kernel_rfl) (of_decide_eq_true (by kernel_rfl)) k0 bel lt0) trodAll_mk0), rfl, bel.frame _, fun h => by cases h⟩

theorem over : Rows.netPlaysRow.holds Try.pinned (OpenSpec.ofChange Rows.netPlaysSpec) :=
  OpenClaim.holds_of_wide 5 Try.f5 rfl rfl rfl rfl rfl rfl rfl ⟨rfl, rfl, rfl, rfl, rfl⟩ rfl rfl rfl rfl rfl (by kernel_rfl) Try.func5 (by kernel_rfl)
    (of_decide_eq_true (by kernel_rfl)) (by unfold Func.isWrapper; first | (rw [if_pos (by decide +kernel)]; kernel_rfl) | (rw [if_neg (by decide +kernel)]; exact ⟨rfl, rfl⟩))
    (fun os started H enc _ => lifted os started H enc)

theorem proved : Rows.NetPlaysSaid := over
#print axioms proved
end Go.Proofs.Ytjffmdfkodkidaa.netPlays

