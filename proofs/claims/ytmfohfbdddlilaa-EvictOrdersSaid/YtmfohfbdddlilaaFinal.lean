/- Proved: EvictOrders, for every input: the law answers true and its arguments read as they did. No condition. The frame began as the proof-skeleton program's print. -/
import Derived.Test.YtmfohfbdddlilaaRows
import Derived.WalkKit
import Derived.ProofKit
import Derived.OpenShut
import Derived.Below
import Derived.Test.YtmfohfbdddlilaaP3
set_option linter.unusedSimpArgs false
set_option linter.unusedVariables false
set_option linter.unusedSectionVars false
set_option linter.deprecated false
set_option maxRecDepth 100000
namespace Go.Proofs.Ytmfohfbdddlilaa.evictOrders
open Go.ChangeShapes Go.WideShapes Go.ChangeAt Go.RowKit
open Go.Sy hiding ask
set_option linter.unusedVariables false

theorem own : ownKnob Try.prog.godebug = none := by kernel_rfl
theorem laidOut : laidOutB Try.prog = true := by kernel_rfl

section
variable {H : Type} {enc : TypeId × Value → H} {w : World} {base : Nat} {spare : Nat → Bool} {held : Bool} {Fz : Nat → Option Go.Am.AO} {N : Nat}
theorem dKey : Dec Try.prog w base spare held enc Fz N 23 CKey CKey.enc :=
  Dec.map (Dec.struct Try.underlying23 (by kernel_rfl)
    (.cons (by kernel_rfl) (Dec.str Try.underlying9) (.cons (by kernel_rfl) (Dec.str Try.underlying9) (.cons (by kernel_rfl) (Dec.str Try.underlying9) .nil)))) (fun x => ⟨x.1, x.2.1, x.2.2.1⟩) (fun x => rfl)
theorem dCookie : Dec Try.prog w base spare held enc Fz N 25 (List UInt8 × Bool × Bool × Bool × Bool × Int × Int × Int) (fun x => [.str x.1, .bool x.2.1, .bool x.2.2.1, .bool x.2.2.2.1, .bool x.2.2.2.2.1, .int .i64 x.2.2.2.2.2.1, .int .i64 x.2.2.2.2.2.2.1, .int .i64 x.2.2.2.2.2.2.2]) :=
  Dec.map (Dec.struct Try.underlying25 (by kernel_rfl)
    (.cons (by kernel_rfl) (Dec.str Try.underlying9) (.cons (by kernel_rfl) (Dec.bool Try.underlying4) (.cons (by kernel_rfl) (Dec.bool Try.underlying4) (.cons (by kernel_rfl) (Dec.bool Try.underlying4) (.cons (by kernel_rfl) (Dec.bool Try.underlying4)
      (.cons (by kernel_rfl) (Dec.int Try.underlying3) (.cons (by kernel_rfl) (Dec.int Try.underlying3) (.cons (by kernel_rfl) (Dec.int Try.underlying3) .nil))))))))) (fun x => ⟨x.1, x.2.1, x.2.2.1, x.2.2.2.1, x.2.2.2.2.1, x.2.2.2.2.2.1, x.2.2.2.2.2.2.1, x.2.2.2.2.2.2.2.1⟩) (fun x => rfl)
theorem dItem : Dec Try.prog w base spare held enc Fz N 27 CItem CItem.enc :=
  Dec.map (Dec.struct Try.underlying27 (by kernel_rfl) (.cons (by kernel_rfl) dKey (.cons (by kernel_rfl) dCookie .nil)))
    (fun x => ⟨x.1.name, x.1.domain, x.1.path, x.2.1.1, x.2.1.2.1, x.2.1.2.2.1, x.2.1.2.2.2.1, x.2.1.2.2.2.2.1, x.2.1.2.2.2.2.2.1, x.2.1.2.2.2.2.2.2.1, x.2.1.2.2.2.2.2.2.2⟩) (fun x => rfl)
theorem item_form {b0 : Nat} {r : Reach} {v : Value} {d : DataW H} {p : List MemPlace} (hv : Value.okWide Try.prog w r b0 27 v) (h : DataW.Trod enc Try.prog w base spare held 27 v d p) :
    ∃ cs, v = .agg cs ∧ ∃ x : CItem, Lies Fz N x.enc cs.toList := by
  obtain ⟨cs, rfl, hsz⟩ := okWide_struct Try.underlying27 hv
  obtain ⟨fuel, hf⟩ := h
  exact ⟨cs, rfl, dItem.one _ _ _ hf⟩
end
theorem walk (x y : CItem) (cs ds : Array Value) (w : World) (h1 : Lies (rowH Try.tab w).get w.heap.size x.enc cs.toList) (h2 : Lies (rowH Try.tab w).get w.heap.size y.enc ds.toList) :
    Calls Try.prog 3 #[.agg cs, .agg ds] w fun e w' => e = .returned (.bool true) ∧ Below w.heap.size w w' :=
  law_of_rows (cfg := cfgOf con6) (args := [.agg cs, .agg ds]) Try.prOk rfl con6_ok (show Try.tab.fns.get 3 = some Try.f3 by kernel_rfl) (law_ask x y) (SimL.cons (.pure (simA_agg h1)) (SimL.cons (.pure (simA_agg h2)) SimL.nil))

/-! ### THE ROW's STEP -/
set_option maxRecDepth 100000 in
theorem lifted (os : Os) (started : os.Started) (H : Type) (enc : TypeId × Value → H) :
    ReturnsInHanded {} Try.checked os 3 .any (Rows.evictOrdersSpec.pre6 enc Try.prog Try.f3 Rows.evictOrdersRow.domain false) (Rows.evictOrdersSpec.post enc Try.prog Try.f3 false true false false) := by
  refine returnsInHanded_of_change (C := Try.checked) own started (by kernel_rfl) Try.func3
    (ChangeSpec.witness6 (enc := enc) (C := Try.checked) false ⟨#[], #[.agg #[.string ByteArray.empty, .string ByteArray.empty, .string ByteArray.empty, .string ByteArray.empty, .bool false, .bool false, .bool false, .bool false, .int .i64 0, .int .i64 0, .int .i64 0], .agg #[.string ByteArray.empty, .string ByteArray.empty, .string ByteArray.empty, .string ByteArray.empty, .bool false, .bool false, .bool false, .bool false, .int .i64 0, .int .i64 0, .int .i64 0]], []⟩ 8 (by kernel_rfl) (by kernel_rfl) (by kernel_rfl) (by kernel_rfl)) ?_
  intro W base args ds gs before hval0 hW hcnd _
  have hval : ∀ (j : Nat) t v, Try.f3.params[j]? = some t → args[j]? = some v → Value.okWide Try.prog W .any base t v := hval0
  have hW' := hW
  obtain ⟨p, q, hA0, hV, rfl, hfz, hnd⟩ := hW
  have hA : DataW.TrodAll enc Try.prog W 0 (fun _ => true) true Try.f3.params.toList args.toList ds p := hA0
  rw [Try.params3] at hA hval
  obtain ⟨v0, vs0, d0, ds0, p0, q0, hargs, rfl, rfl, h0, r0⟩ := trodAll_cons hA
  obtain ⟨v1, vs1, d1, ds1, p1, q1, rfl, rfl, rfl, h1, r1⟩ := trodAll_cons r0
  obtain ⟨rfl, rfl, rfl⟩ := trodAll_nil r1
  obtain rfl : args = #[v0, v1] := by cases args; simp_all
  obtain ⟨rfl, rfl⟩ := trodVars_none hV
  have k0 := h0
  have k1 := h1
  have lt0 : ∀ x ∈ p0, x.block < W.heap.size := by obtain ⟨m, hm⟩ := k0; exact DataW.trod_lt m _ _ _ hm
  have lt1 : ∀ x ∈ p1, x.block < W.heap.size := by obtain ⟨m, hm⟩ := k1; exact DataW.trod_lt m _ _ _ hm
  obtain ⟨cs, rfl, x, hx⟩ := item_form (Fz := (rowH Try.tab W).get) (N := W.heap.size) (hval 0 27 v0 rfl rfl) h0
  obtain ⟨cs', rfl, y, hy⟩ := item_form (Fz := (rowH Try.tab W).get) (N := W.heap.size) (hval 1 27 v1 rfl rfl) h1
  clear hA0 hval0
  refine (walk x y cs cs' W hx hy).mono fun e W' ⟨he, bel⟩ => ?_
  subst he
  exact ⟨_, rfl, _, _, _, [], _, [], hW', trodAll_mk1 (shut_bool Try.underlying4 _), (trodAll_cons_mk (Below.trod laidOut (by kernel_rfl) (of_decide_eq_true (by kernel_rfl)) k0 bel lt0) (trodAll_cons_mk (Below.trod laidOut (by kernel_rfl) (of_decide_eq_true (by kernel_rfl)) k1 bel lt1) trodAll_mk0)), rfl, bel.frame _, fun h => by cases h⟩

theorem over : Rows.evictOrdersRow.holds Try.pinned (OpenSpec.ofChange Rows.evictOrdersSpec) :=
  OpenClaim.holds_of_wide 3 Try.f3 rfl rfl rfl rfl rfl rfl rfl ⟨rfl, rfl, rfl, rfl, rfl⟩ rfl rfl rfl rfl rfl (by kernel_rfl) Try.func3 (by kernel_rfl)
    (of_decide_eq_true (by kernel_rfl)) (by unfold Func.isWrapper; first | (rw [if_pos (by decide +kernel)]; kernel_rfl) | (rw [if_neg (by decide +kernel)]; exact ⟨rfl, rfl⟩))
    (fun os started H enc _ => lifted os started H enc)

theorem proved : Rows.EvictOrdersSaid := over
#print axioms proved
end Go.Proofs.Ytmfohfbdddlilaa.evictOrders

