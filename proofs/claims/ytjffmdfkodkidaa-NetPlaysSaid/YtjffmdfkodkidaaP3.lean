/- An evaluator over symbolic values, proved sound over the model's machine, and its use at this seat; no condition. Part 3. -/
import Derived.BigRegion
import Derived.Test.YtjffmdfkodkidaaP2
set_option linter.unusedSimpArgs false
set_option linter.unusedVariables false
set_option linter.unusedSectionVars false
set_option linter.deprecated false
namespace Go.Proofs.Ytjffmdfkodkidaa
open Go.RowKit
set_option linter.unusedVariables false
set_option maxRecDepth 10000 in
set_option maxHeartbeats 2000000 in
theorem rdrop_some (w : World) (b o n c : Nat) (s : Int) (Ls : List (List Int)) (i : Nat) (h : RefL w (.slice (some ⟨b, o, none⟩) n c) Ls) (hi : i < n) (hn : n ≤ 512) (hc : i + 1 < c) (hcn : n ≤ c) :
    Calls Try.prog 27 #[.agg #[.slice (some ⟨b, o, none⟩) n c, .int .i64 s], .int .i64 i] w fun e w' => ∃ u', e = .returned (.tuple #[.agg #[u', .int .i64 s], .int .i64 0]) ∧ RefL w' u' (Ls.eraseIdx i) ∧ Still w w' ∧ ∀ k, u'.ownBlock = some k → w.heap.size ≤ k := by
  have hin := fun w => in_ok w (some ⟨b, o, none⟩) n c s i
  have hd : decide ((0 : Int) ≤ i ∧ (i : Int) < n) = true := decide_eq_true ⟨by omega, by omega⟩
  simp only [hd] at hin
  have hsz22 : Try.t22.size = 1 := by kernel_rfl
  have hby22 : Try.t22.bytes = 24 := by kernel_rfl
  have hz22 : Try.t22.zero = some (.slice none 0 0) := by kernel_rfl
  have hi22 : Try.prog.info? 22 = some Try.t22 := by kernel_rfl
  have hk1 : (i : Int) ≤ (n : Int) := by omega
  have hk2 : (i : Int) + 1 ≤ (n : Int) := by omega
  have hk3 : (0 : Int) ≤ (i : Int) + 1 := by omega
  have hk4 : i ≤ c := by omega
  have hk5 : ¬ (c = i + 1) := by omega
  have hk6 : ¬ (c = i) := by omega
  have hk7 : i + 1 ≤ n := by omega
  go_enter Try.func27, Try.ntmps27
  go_wp2_with (go_at_call 31; refine (hin _).mono ?_; rintro e w' ⟨rfl, o2, rfl⟩)
  have B1 : Boxes w (((w.alloc (.cells #[.slice (some ⟨b, o, none⟩) n c, .int .i64 s] 41)).alloc (.cells #[.slice none 0 0, .int .i64 0] 41)).alloc o2) (some ⟨b, o, none⟩) n c s #[.slice none 0 0, .int .i64 0] := (Boxes.start w _ n c s _).alloc o2
  have hsz : w.heap.size + 2 ≤ (((w.alloc (.cells #[.slice (some ⟨b, o, none⟩) n c, .int .i64 s] 41)).alloc (.cells #[.slice none 0 0, .int .i64 0] 41)).alloc o2).heap.size := by rw [World.size_alloc, World.size_alloc, World.size_alloc]; omega
  generalize ((w.alloc (.cells #[.slice (some ⟨b, o, none⟩) n c, .int .i64 s] 41)).alloc (.cells #[.slice none 0 0, .int .i64 0] 41)).alloc o2 = W1 at *
  have R1 := h.still B1.still
  obtain ⟨hlen, _, ys, hyl, hread, hyb, hone⟩ := R1.heads
  have hread := hread _ rfl
  have hb0 := B1.cell0
  have hb1 := B1.cell1
  clear h hd hin
  have hlt1 : w.heap.size < W1.heap.size := by omega
  have hlt2 : w.heap.size + 1 < W1.heap.size := by omega
  have hk8 : (i : Int) + 1 < 1000 := by omega
  have hwrap : IntKind.i64.wrap ((i : Int) + 1) = (i : Int) + 1 := by rw [IntKind.wrap_i64]; omega
  have hown1 : (W1.alloc (.cells #[] 22)).drew.ownsRow (w.heap.size + 2) 22 1 (.slice (some ⟨W1.heap.size, 0, none⟩) 0 0) 0 [] := own_fresh0 W1 22 _ hsz
  have hread1 : ∀ ad, some (⟨b, o, none⟩ : Addr) = some ad → ∀ (j : Nat) (u : Value), (ys.take i)[j]? = some u → (W1.alloc (.cells #[] 22)).drew.cell? (ad.add j) = some u := by
    intro ad had j u hj
    simp only [Option.some.injEq] at had
    subst had
    have hj2 : ys[j]? = some u := by
      rw [List.getElem?_take] at hj
      split at hj
      · exact hj
      · cases hj
    exact cell_alloc_lt (hread j u hj2)
  have hread2 : ∀ wi, Still W1 wi → ∀ ad, some (⟨b, o + (i + 1), none⟩ : Addr) = some ad → ∀ (j : Nat) (u : Value), (ys.drop (i + 1))[j]? = some u → wi.cell? (ad.add j) = some u := by
    intro wi hst ad had j u hj
    simp only [Option.some.injEq] at had
    subst had
    rw [List.getElem?_drop] at hj
    have h1 := hread _ u hj
    have e1 : (⟨b, o, none⟩ : Addr).add (i + 1 + j) = ⟨b, o + (i + 1 + j), none⟩ := by unfold Addr.add; split <;> simp_all
    have e2 : (⟨b, o + (i + 1), none⟩ : Addr).add j = ⟨b, o + (i + 1) + j, none⟩ := by unfold Addr.add; split <;> simp_all
    rw [e1] at h1
    rw [e2, Nat.add_assoc]
    have hlt : b < W1.heap.size := by
      apply Decidable.byContradiction
      intro hn
      have : W1.heap[b]? = none := Array.getElem?_eq_none (by omega)
      simp [World.cell?, this] at h1
    rw [← h1]
    simp only [World.cell?, hst.block b hlt (fun h => h)]
  have hA : ∀ (v1 : Value) (w3 : World), w3.ownsRow (w.heap.size + 2) 22 1 v1 (0 + i) ([] ++ ys.take i) → (W1.alloc (.cells #[] 22)).drew.grownBy w3 (Value.slice (some ⟨W1.heap.size, 0, none⟩) 0 0).ownBlock →
      Boxes w w3 (some ⟨b, o, none⟩) n c s #[.slice none 0 0, .int .i64 0] ∧ w3.ownsRow (w.heap.size + 2) 22 1 v1 i (ys.take i) ∧ Still W1 w3 ∧ w.heap.size + 2 ≤ w3.heap.size := by
    intro v1 w3 h1 h2
    have hst : Still W1 w3 := still_grown (w := W1) ((Chg.alloc _ W1 _).trans (still_drew _)) h2 (fun k hk => by simp only [Value.ownBlock, Option.some.injEq] at hk; omega)
    exact ⟨B1.still_ hst, by simpa using h1, hst, Nat.le_trans hsz hst.size⟩
  have hB : ∀ (v1 v2 : Value) (w3 w5 : World), Boxes w w3 (some ⟨b, o, none⟩) n c s #[.slice none 0 0, .int .i64 0] → w3.ownsRow (w.heap.size + 2) 22 1 v1 i (ys.take i) → Still W1 w3 →
      w5.ownsRow (w.heap.size + 2) 22 1 v2 (i + (n - (i + 1))) (ys.take i ++ ys.drop (i + 1)) → w3.grownBy w5 v1.ownBlock → Boxes w w5 (some ⟨b, o, none⟩) n c s #[.slice none 0 0, .int .i64 0] ∧ RefL w5 v2 (Ls.eraseIdx i) ∧ ∀ k, v2.ownBlock = some k → w.heap.size + 2 ≤ k := by
    intro v1 v2 w3 w5 b3 o3 s3 o5 g5
    have hC : Chg (fun k => v1.ownBlock = some k) w3 w5 := ⟨g5.os, g5.tape, g5.output, g5.size, fun k hk hs => g5.block k hk (Ne.symm hs)⟩
    have hT : ∀ k cur, w3.heap[k]? = some (.cells cur 5 (0, 0)) → ¬ v1.ownBlock = some k := fun k cur hk => own_ne o3 hk (by decide)
    refine ⟨boxes_own w b3 (Nat.le_refl _) o3 g5, RefL.row o5 ?_ ?_, fun k hk => (o5.lt k hk).1⟩
    · rw [List.length_eraseIdx, if_pos (by omega)]
      simp
      omega
    · intro j bs hj
      rw [← List.eraseIdx_eq_take_drop_succ, List.getElem?_eraseIdx]
      rw [List.getElem?_eraseIdx] at hj
      split at hj
      · rename_i hji
        obtain ⟨y, g1, g2⟩ := hyb j bs hj
        exact ⟨y, by rw [if_pos hji]; exact g1, (g2.still s3).chg hC hT⟩
      · rename_i hji
        obtain ⟨y, g1, g2⟩ := hyb (j + 1) bs hj
        exact ⟨y, by rw [if_neg hji]; exact g1, (g2.still s3).chg hC hT⟩
  have hone1 : ∀ u ∈ ys.take i, u.oneCell' = true := fun u hu => hone u (List.mem_of_mem_take hu)
  have hone2 : ∀ u ∈ ys.drop (i + 1), u.oneCell' = true := fun u hu => hone u (List.mem_of_mem_drop hu)
  have hl1 : (ys.take i).length = i * 1 := by simp; omega
  have hl2 : (ys.drop (i + 1)).length = (n - (i + 1)) * 1 := by simp; omega
  have HA : Hid _ := hA
  have HB : Hid _ := hB
  have hbound : 0 + i ≤ maxLen := by unfold maxLen; omega
  have hbound2 : i + (n - (i + 1)) ≤ maxLen := by unfold maxLen; omega
  clear hA hB hread hyb hone R1
  go_region_law (first
    | (refine step_append_src rfl (.tmp 11) (.tmp 15) 39 rfl (w.heap.size + 2) 22 Try.t22 (.slice none 0 0) 1 24 Try.underlying39 hi22 hz22 hsz22 hby22 rfl (by decide) (.slice (some ⟨W1.heap.size, 0, none⟩) 0 0) 0 [] (by simp [Act.eval, Act.put]) hown1 (some ⟨b, o, none⟩) i c (ys.take i) (by simp [Act.eval, Act.put]) hl1 hread1 (fun h => by cases h) hone1 hbound (by omega) (by simp only [World.size_drew, World.size_alloc]; omega) ?_
       intro v1 w3 hown hgrow _
       obtain ⟨B3, O3, S3, Z3⟩ := HA.out v1 w3 hown hgrow
       obtain ⟨ao1, cap1, rfl⟩ := own_form O3
       have hc30 := B3.cell0
       have hc31 := B3.cell1)
    | (refine step_append_src rfl (.tmp 16) (.tmp 21) 39 rfl (w.heap.size + 2) 22 Try.t22 (.slice none 0 0) 1 24 Try.underlying39 hi22 hz22 hsz22 hby22 rfl (by decide) (.slice ao1 i cap1) i (ys.take i) (by simp [Act.eval, Act.put]) O3 (some ⟨b, o + (i + 1), none⟩) (n - (i + 1)) (c - (i + 1)) (ys.drop (i + 1)) (by simp [Act.eval, Act.put]) hl2 (hread2 _ S3) (fun h => by cases h) hone2 hbound2 (by omega) Z3 ?_
       intro v2 w5 hown hgrow _
       obtain ⟨B5, R5, L5⟩ := HB.out _ v2 w3 w5 B3 O3 S3 hown hgrow
       obtain ⟨ao2, cap2, rfl⟩ := own_form hown
       have hc50 := B5.cell0
       have hc51 := B5.cell1
       have hr0 : w5.cell? ⟨w.heap.size + 1, 0, none⟩ = some (.slice none 0 0) := (by simp [World.cell?, B5.res])
       have hr1 : w5.cell? ⟨w.heap.size + 1, 1, none⟩ = some (.int .i64 0) := (by simp [World.cell?, B5.res])
       have hf0 : w5.frozen? ⟨w.heap.size + 1, 0, none⟩ = false := (by simp [World.frozen?, B5.res])
       have hf1 : w5.frozen? ⟨w.heap.size + 1, 1, none⟩ = false := (by simp [World.frozen?, B5.res])))
  all_goals (first | go_wp2 | skip)
  all_goals (
    refine bodyPost_ret (v := .tuple #[.agg #[.slice ao2 (i + (n - (i + 1))) cap2, .int .i64 s], .int .i64 0]) (by rw [results_cell_tmp rfl]; go_simp) rfl ⟨_, rfl, ?_, ?_, ?_⟩
    · exact (boxes_set B5 R5 (fun k hk e => by have := L5 k hk; omega) _ _).1
    · exact (boxes_set B5 R5 (fun k hk e => by have := L5 k hk; omega) _ _).2
    · intro k hk
      have := L5 k hk
      omega)
end Go.Proofs.Ytjffmdfkodkidaa

