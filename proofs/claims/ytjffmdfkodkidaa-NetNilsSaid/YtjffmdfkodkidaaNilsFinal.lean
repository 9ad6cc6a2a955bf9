/- Proved: NetNils, for every input: the law answers true and its argument reads as it did. No condition. The frame began as the proof-skeleton program's print. -/
import Derived.Test.YtjffmdfkodkidaaNilsW
import Derived.Test.YtjffmdfkodkidaaRows
import Derived.WalkKit
import Derived.ProofKit
import Derived.OpenShut
import Derived.ShutString
import Derived.ChangeOld
import Derived.Below
import Derived.Lib.SmallJoins
set_option linter.unusedSimpArgs false
set_option linter.unusedVariables false
set_option linter.unusedSectionVars false
set_option linter.deprecated false
namespace Go.Proofs.Ytjffmdfkodkidaa.netNils
open Go.ChangeShapes Go.WideShapes Go.ChangeAt Go.RowKit
set_option linter.unusedVariables false

theorem own : ownKnob Try.prog.godebug = none := by kernel_rfl
theorem laidOut : laidOutB Try.prog = true := by kernel_rfl
theorem array5 {α : Type} {cs : Array α} (h : cs.size = 5) : ∃ c0 c1 c2 c3 c4, cs = #[c0, c1, c2, c3, c4] := by
  obtain ⟨l⟩ := cs
  match l, h with
  | [c0, c1, c2, c3, c4], _ => exact ⟨c0, c1, c2, c3, c4, rfl⟩
theorem cells43 : Try.prog.cellsOf 43 = 5 := by kernel_rfl
theorem cells3 : Try.prog.cellsOf 3 = 1 := by kernel_rfl
theorem cells5 : Try.prog.cellsOf 5 = 1 := by kernel_rfl
theorem cells22 : Try.prog.cellsOf 22 = 1 := by kernel_rfl
theorem step_form {H : Type} {enc : TypeId × Value → H} {w : World} {base b0 : Nat} {r : Reach} {v : Value} {d : DataW H} {p : List MemPlace} (hv : Value.okWide Try.prog w r b0 43 v) (h : DataW.Trod enc Try.prog w base (fun _ => true) true 43 v d p) :
    ∃ k i at_ by_ a n c, v = .agg #[.int .i64 k, .int .i64 i, .int .i64 at_, .int .u8 by_, .slice a n c] := by
  obtain ⟨cs, rfl, hsz⟩ := okWide_struct Try.underlying43 hv
  obtain ⟨c0, c1, c2, c3, c4, rfl⟩ := array5 (hsz.trans cells43)
  obtain ⟨fuel, hf⟩ := h
  obtain ⟨xs, n, _, _, _, hlen, hx⟩ := DataW.trod_struct Try.underlying43 hf
  have hlen : xs.length = 5 := hlen
  have g0 : DataW.trod enc Try.prog w base (fun _ => true) true n 3 (List.take (Try.prog.cellsOf 3) (List.drop 0 [c0, c1, c2, c3, c4])) = xs[0]? := hx 0 _ rfl
  rw [cells3, List.getElem?_eq_getElem (by omega)] at g0
  change DataW.trod enc Try.prog w base (fun _ => true) true n 3 [c0] = _ at g0
  have g1 : DataW.trod enc Try.prog w base (fun _ => true) true n 3 (List.take (Try.prog.cellsOf 3) (List.drop 1 [c0, c1, c2, c3, c4])) = xs[1]? := hx 1 _ rfl
  rw [cells3, List.getElem?_eq_getElem (by omega)] at g1
  change DataW.trod enc Try.prog w base (fun _ => true) true n 3 [c1] = _ at g1
  have g2 : DataW.trod enc Try.prog w base (fun _ => true) true n 3 (List.take (Try.prog.cellsOf 3) (List.drop 2 [c0, c1, c2, c3, c4])) = xs[2]? := hx 2 _ rfl
  rw [cells3, List.getElem?_eq_getElem (by omega)] at g2
  change DataW.trod enc Try.prog w base (fun _ => true) true n 3 [c2] = _ at g2
  have g3 : DataW.trod enc Try.prog w base (fun _ => true) true n 5 (List.take (Try.prog.cellsOf 5) (List.drop 3 [c0, c1, c2, c3, c4])) = xs[3]? := hx 3 _ rfl
  rw [cells5, List.getElem?_eq_getElem (by omega)] at g3
  change DataW.trod enc Try.prog w base (fun _ => true) true n 5 [c3] = _ at g3
  have g4 : DataW.trod enc Try.prog w base (fun _ => true) true n 22 (List.take (Try.prog.cellsOf 22) (List.drop 4 [c0, c1, c2, c3, c4])) = xs[4]? := hx 4 _ rfl
  rw [cells22, List.getElem?_eq_getElem (by omega)] at g4
  change DataW.trod enc Try.prog w base (fun _ => true) true n 22 [c4] = _ at g4
  obtain ⟨k, e0, _⟩ := DataW.trod_int Try.underlying3 g0
  obtain ⟨i, e1, _⟩ := DataW.trod_int Try.underlying3 g1
  obtain ⟨at_, e2, _⟩ := DataW.trod_int Try.underlying3 g2
  obtain ⟨by_, e3, _⟩ := DataW.trod_int Try.underlying5 g3
  obtain ⟨a, l, c, e4⟩ := Joins.slice_form Try.underlying22 g4
  simp only [List.cons.injEq, and_true] at e0 e1 e2 e3 e4
  subst e0 e1 e2 e3 e4
  exact ⟨_, _, _, _, _, _, _, rfl⟩

set_option maxRecDepth 100000 in
theorem lifted (os : Os) (started : os.Started) (H : Type) (enc : TypeId × Value → H) :
    ReturnsInHanded {} Try.checked os 6 .any (Rows.netNilsSpec.pre6 enc Try.prog Try.f6 Rows.netNilsRow.domain false) (Rows.netNilsSpec.post enc Try.prog Try.f6 false true false false) := by
  refine returnsInHanded_of_change (C := Try.checked) own started (by kernel_rfl) Try.func6
    (ChangeSpec.witness6 (enc := enc) (C := Try.checked) false ⟨#[], #[.agg #[.int .i64 0, .int .i64 0, .int .i64 0, .int .u8 0, .slice none 0 0]], []⟩ 8 (by kernel_rfl) (by kernel_rfl) (by kernel_rfl) (by kernel_rfl)) ?_
  intro W base args ds gs before hval0 hW hcnd _
  have hval : ∀ (j : Nat) t v, Try.f6.params[j]? = some t → args[j]? = some v → Value.okWide Try.prog W .any base t v := hval0
  have hW' := hW
  obtain ⟨p, q, hA0, hV, rfl, hfz, hnd⟩ := hW
  have hA : DataW.TrodAll enc Try.prog W 0 (fun _ => true) true Try.f6.params.toList args.toList ds p := hA0
  rw [Try.params6] at hA hval
  obtain ⟨v0, vs0, d0, ds0, p0, q0, hargs, rfl, rfl, h0, r0⟩ := trodAll_cons hA
  obtain ⟨rfl, rfl, rfl⟩ := trodAll_nil r0
  obtain rfl : args = #[v0] := by cases args; simp_all
  obtain ⟨rfl, rfl⟩ := trodVars_none hV
  have k0 := h0
  have lt0 : ∀ x ∈ p0, x.block < W.heap.size := by obtain ⟨m, hm⟩ := k0; exact DataW.trod_lt m _ _ _ hm
  obtain ⟨k, i, at_, by_, a, n, c, rfl⟩ := step_form (hval 0 43 v0 rfl rfl) h0
  clear hA0 hval0
  refine (netNils_walk k i at_ by_ a n c W).mono fun e W' ⟨he, bel⟩ => ?_
  subst he
  exact ⟨_, rfl, _, _, _, [], _, [], hW', trodAll_mk1 (shut_bool Try.underlying4 _), (trodAll_cons_mk (Below.trod laidOut (by kernel_rfl) (of_decide_eq_true (by kernel_rfl)) k0 bel lt0) trodAll_mk0), rfl, bel.frame _, fun h => by cases h⟩

theorem over : Rows.netNilsRow.holds Try.pinned (OpenSpec.ofChange Rows.netNilsSpec) :=
  OpenClaim.holds_of_wide 6 Try.f6 rfl rfl rfl rfl rfl rfl rfl ⟨rfl, rfl, rfl, rfl, rfl⟩ rfl rfl rfl rfl rfl (by kernel_rfl) Try.func6 (by kernel_rfl)
    (of_decide_eq_true (by kernel_rfl)) (by unfold Func.isWrapper; first | (rw [if_pos (by decide +kernel)]; kernel_rfl) | (rw [if_neg (by decide +kernel)]; exact ⟨rfl, rfl⟩))
    (fun os started H enc _ => lifted os started H enc)

theorem proved : Rows.NetNilsSaid := over
#print axioms proved
end Go.Proofs.Ytjffmdfkodkidaa.netNils
