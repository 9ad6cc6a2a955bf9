/- Proved: SessionNils, for every input: the law answers true and its arguments read as they did. No condition. The frame began as the proof-skeleton program's print. -/
import Derived.Test.YthgcpbkifhnlpaaGreatOk
import Derived.Test.YthgcpbkifhnlpaaGreatExt
import Derived.Test.YthgcpbkifhnlpaaGreatLight
import Derived.Test.YthgcpbkifhnlpaaGreatRows
import Derived.WalkKit
import Derived.ProofKit
import Derived.OpenShut
import Derived.ShutString
import Derived.ChangeOld
import Derived.Below
import Derived.Lib.SmallJoins
import Derived.SliceStrings
set_option linter.unusedSimpArgs false
set_option linter.unusedVariables false
set_option linter.unusedSectionVars false
set_option linter.deprecated false
set_option maxRecDepth 100000
namespace Go.Proofs.YthgcpbkifhnlpaaGreat.sessionNils
open Go.ChangeShapes Go.WideShapes Go.ChangeAt Go.RowKit
open Go.ChangeMaps (open_string shut_string)
set_option linter.unusedVariables false

theorem own : ownKnob Tryz.prog.godebug = none := by kernel_rfl
theorem laidOut : laidOutB Tryz.prog = true := by kernel_rfl
theorem cells24 : Tryz.prog.cellsOf 24 = 4 := by kernel_rfl
theorem cells3 : Tryz.prog.cellsOf 3 = 1 := by kernel_rfl
theorem cells22 : Tryz.prog.cellsOf 22 = 1 := by kernel_rfl
theorem cells9 : Tryz.prog.cellsOf 9 = 1 := by kernel_rfl
/-- What a slice of texts reads as. -/
def Texts (w : World) (a : Option Addr) (n : Nat) (S : Nat → ByteArray) : Prop := n ≤ 9223372036854775807 ∧ (0 < n → ∃ b o, a = some ⟨b, o, none⟩ ∧ ∀ k, k < n → w.cell? ⟨b, o + k, none⟩ = some (.string (S k)))
theorem config_form {H : Type} {enc : TypeId × Value → H} {w : World} {base b0 : Nat} {r : Reach} {v : Value} {d : DataW H} {p : List MemPlace} (hv : Value.okWide Tryz.prog w r b0 24 v) (h : DataW.Trod enc Tryz.prog w base (fun _ => true) true 24 v d p) :
    ∃ d1 d2 d3 a n c S, v = .agg #[.int .i64 d1, .int .i64 d2, .int .i64 d3, .slice a n c] ∧ Texts w a n S := by
  obtain ⟨cs, rfl, hsz⟩ := okWide_struct Tryz.underlying24 hv
  obtain ⟨c0, c1, c2, c3, rfl⟩ := Joins.array4 (hsz.trans cells24)
  obtain ⟨fuel, hf⟩ := h
  obtain ⟨xs, n, _, _, _, hlen, hx⟩ := DataW.trod_struct Tryz.underlying24 hf
  have hlen : xs.length = 4 := hlen
  have g0 : DataW.trod enc Tryz.prog w base (fun _ => true) true n 3 (List.take (Tryz.prog.cellsOf 3) (List.drop 0 [c0, c1, c2, c3])) = xs[0]? := hx 0 _ rfl
  rw [cells3, List.getElem?_eq_getElem (by omega)] at g0
  change DataW.trod enc Tryz.prog w base (fun _ => true) true n 3 [c0] = _ at g0
  have g1 : DataW.trod enc Tryz.prog w base (fun _ => true) true n 3 (List.take (Tryz.prog.cellsOf 3) (List.drop 1 [c0, c1, c2, c3])) = xs[1]? := hx 1 _ rfl
  rw [cells3, List.getElem?_eq_getElem (by omega)] at g1
  change DataW.trod enc Tryz.prog w base (fun _ => true) true n 3 [c1] = _ at g1
  have g2 : DataW.trod enc Tryz.prog w base (fun _ => true) true n 3 (List.take (Tryz.prog.cellsOf 3) (List.drop 2 [c0, c1, c2, c3])) = xs[2]? := hx 2 _ rfl
  rw [cells3, List.getElem?_eq_getElem (by omega)] at g2
  change DataW.trod enc Tryz.prog w base (fun _ => true) true n 3 [c2] = _ at g2
  have g3 : DataW.trod enc Tryz.prog w base (fun _ => true) true n 22 (List.take (Tryz.prog.cellsOf 22) (List.drop 3 [c0, c1, c2, c3])) = xs[3]? := hx 3 _ rfl
  rw [cells22, List.getElem?_eq_getElem (by omega)] at g3
  change DataW.trod enc Tryz.prog w base (fun _ => true) true n 22 [c3] = _ at g3
  obtain ⟨d1, e0, _⟩ := DataW.trod_int Tryz.underlying3 g0
  obtain ⟨d2, e1, _⟩ := DataW.trod_int Tryz.underlying3 g1
  obtain ⟨d3, e2, _⟩ := DataW.trod_int Tryz.underlying3 g2
  simp only [List.cons.injEq, and_true] at e0 e1 e2
  subst e0 e1 e2
  rcases open_strings Tryz.underlying22 Tryz.underlying9 cells9 g3 with ⟨hcs, _⟩ | ⟨a, len, cap, ss, hcs, _, hl, hm, hz, _, hcell, _⟩
  · simp only [List.cons.injEq, and_true] at hcs
    subst hcs
    exact ⟨d1, d2, d3, _, _, _, fun _ => ByteArray.empty, rfl, by omega, fun h => absurd h (by simp)⟩
  · simp only [List.cons.injEq, and_true] at hcs
    subst hcs
    simp only [if_true] at hz
    refine ⟨d1, d2, d3, _, _, _, fun k => ss.getD k ByteArray.empty, rfl, by simp only [maxLen] at hm; omega, fun h => ?_⟩
    obtain ⟨b, o, spot⟩ := a
    have h0 := hcell 0 (by omega)
    have hspot : spot = none := by simpa [Addr.add] using World.cell?_spot h0
    subst hspot
    refine ⟨b, o, rfl, fun k hk => ?_⟩
    have e2 : (⟨b, o, none⟩ : Addr).add k = ⟨b, o + k, none⟩ := by unfold Addr.add; split <;> simp_all
    rw [← e2, hcell k (by omega)]
theorem Texts.below {w w' : World} {a : Option Addr} {n : Nat} {S : Nat → ByteArray} (h : Texts w a n S) (hb : Below w.heap.size w w') : Texts w' a n S := by
  refine ⟨h.1, fun h0 => ?_⟩
  obtain ⟨b, o, rfl, hc⟩ := h.2 h0
  refine ⟨b, o, rfl, fun k hk => ?_⟩
  have h1 := hc k hk
  have hlt : b < w.heap.size := by
    apply Decidable.byContradiction
    intro hn
    have : w.heap[b]? = none := Array.getElem?_eq_none (by omega)
    simp [World.cell?, this] at h1
  rw [← h1]
  simp only [World.cell?, hb.block b hlt]
theorem walk (d1 d2 d3 : Int) (a : Option Addr) (n c : Nat) (S : Nat → ByteArray) (now : Int) (s : ByteArray) (w : World) (hT : Texts w a n S) :
    Calls Tryz.prog 3 #[.agg #[.int .i64 d1, .int .i64 d2, .int .i64 d3, .slice a n c], .int .i64 now, .string s] w fun e w' => e = .returned (.bool true) ∧ Below w.heap.size w w' := by
  refine Go.Am.law_of_run3 Tryz.tabOk Tryz.extOk Tryz.mix Tryz.fn3 (by kernel_rfl) (Tryz.lawRun d1 d2 d3 a n c now s) (fun _ => rfl) (Tryz.lawMade d1 d2 d3 a n c now s) ?_
  intro x hx
  rw [List.mem_singleton] at hx
  subst hx
  refine Go.Am.ConAt.of (argsC := #[.agg #[.int .i64 d1, .int .i64 d2, .int .i64 d3, .slice a n c], .agg #[.string ⟨#[]⟩, .string ⟨#[]⟩, .bool false, .bool false, .string ⟨#[]⟩, .int .i64 0]]) (vs := [.bool true, .bool false]) (fun _ => rfl) ?_ ?_ ?_
  · intro h outs ho v hv
    have : outs = [(.bool true, h), (.bool false, h)] := by
      have h2 : con4 4 [.agg [.raw (.int .i64 d1), .raw (.int .i64 d2), .raw (.int .i64 d3), .raw (.slice a n c)], .agg [.str [], .str [], .bool false, .bool false, .str [], .int .i64 0]] h = some [(.bool true, h), (.bool false, h)] := rfl
      rw [h2] at ho
      exact (Option.some.inj ho).symm
    subst this
    simp only [List.mem_cons, List.not_mem_nil, or_false] at hv ⊢
    rcases hv with rfl | rfl
    · exact .inl rfl
    · exact .inr rfl
  · intro v hv E E'
    simp only [List.mem_cons, List.not_mem_nil, or_false] at hv
    rcases hv with rfl | rfl <;> rfl
  · intro w1 hb
    have hT1 := hT.below hb
    refine (light_walk w1 d1 d2 d3 a n c S hT1.1 hT1.2).mono fun e w' ⟨⟨b, he⟩, h2⟩ => ⟨⟨.bool b, ?_, he⟩, h2⟩
    cases b <;> simp

/-! ### THE ROW's STEP -/
set_option maxRecDepth 100000 in
theorem lifted (os : Os) (started : os.Started) (H : Type) (enc : TypeId × Value → H) :
    ReturnsInHanded {} Tryz.checked os 3 .any (Rows.sessionNilsSpec.pre6 enc Tryz.prog Tryz.f3 Rows.sessionNilsRow.domain false) (Rows.sessionNilsSpec.post enc Tryz.prog Tryz.f3 false true false false) := by
  refine returnsInHanded_of_change (C := Tryz.checked) own started (by kernel_rfl) Tryz.func3
    (ChangeSpec.witness6 (enc := enc) (C := Tryz.checked) false ⟨#[], #[.agg #[.int .i64 0, .int .i64 0, .int .i64 0, .slice none 0 0], .int .i64 0, .string ByteArray.empty], []⟩ 8 (by kernel_rfl) (by kernel_rfl) (by kernel_rfl) (by kernel_rfl)) ?_
  intro W base args ds gs before hval0 hW hcnd _
  have hval : ∀ (j : Nat) t v, Tryz.f3.params[j]? = some t → args[j]? = some v → Value.okWide Tryz.prog W .any base t v := hval0
  have hW' := hW
  obtain ⟨p, q, hA0, hV, rfl, hfz, hnd⟩ := hW
  have hA : DataW.TrodAll enc Tryz.prog W 0 (fun _ => true) true Tryz.f3.params.toList args.toList ds p := hA0
  rw [Tryz.params3] at hA hval
  obtain ⟨v0, vs0, d0, ds0, p0, q0, hargs, rfl, rfl, h0, r0⟩ := trodAll_cons hA
  obtain ⟨v1, vs1, d1, ds1, p1, q1, rfl, rfl, rfl, h1, r1⟩ := trodAll_cons r0
  obtain ⟨v2, vs2, d2, ds2, p2, q2, rfl, rfl, rfl, h2, r2⟩ := trodAll_cons r1
  obtain ⟨rfl, rfl, rfl⟩ := trodAll_nil r2
  obtain rfl : args = #[v0, v1, v2] := by cases args; simp_all
  obtain ⟨rfl, rfl⟩ := trodVars_none hV
  have k0 := h0
  have lt0 : ∀ x ∈ p0, x.block < W.heap.size := by obtain ⟨m, hm⟩ := k0; exact DataW.trod_lt m _ _ _ hm
  obtain ⟨d1, d2, d3, a, n, c, S, rfl, hT⟩ := config_form (hval 0 24 v0 rfl rfl) h0
  obtain ⟨now, rfl, rfl, rfl, w1⟩ := open_int Tryz.underlying3 (hval 1 3 v1 rfl rfl) h1
  obtain ⟨s, rfl, rfl, rfl, hs⟩ := open_string Tryz.underlying9 (hval 2 9 v2 rfl rfl) h2
  clear hA0 hval0
  refine (walk d1 d2 d3 a n c S now s W hT).mono fun e W' ⟨he, bel⟩ => ?_
  subst he
  exact ⟨_, rfl, _, _, _, [], _, [], hW', trodAll_mk1 (shut_bool Tryz.underlying4 _), (trodAll_cons_mk (Below.trod laidOut (by kernel_rfl) (of_decide_eq_true (by kernel_rfl)) k0 bel lt0) (trodAll_cons_mk (shut_int Tryz.underlying3 w1) (trodAll_cons_mk (shut_string Tryz.underlying9 hs) trodAll_mk0))), rfl, bel.frame _, fun h => by cases h⟩

theorem over : Rows.sessionNilsRow.holds Tryz.pinned (OpenSpec.ofChange Rows.sessionNilsSpec) :=
  OpenClaim.holds_of_wide 3 Tryz.f3 rfl rfl rfl rfl rfl rfl rfl ⟨rfl, rfl, rfl, rfl, rfl⟩ rfl rfl rfl rfl rfl (by kernel_rfl) Tryz.func3 (by kernel_rfl)
    (of_decide_eq_true (by kernel_rfl)) (by unfold Func.isWrapper; first | (rw [if_pos (by decide +kernel)]; kernel_rfl) | (rw [if_neg (by decide +kernel)]; exact ⟨rfl, rfl⟩))
    (fun os started H enc _ => lifted os started H enc)

theorem proved : Rows.SessionNilsSaid := over
#print axioms proved
end Go.Proofs.YthgcpbkifhnlpaaGreat.sessionNils
