/- An evaluator over symbolic values, proved sound over the model's machine, and its use at this seat; no condition. Part 5. -/
import Derived.BigRegion
import Derived.LoopTactic
import Derived.BigQuiet
import Derived.Deep.QuietTactic
import Derived.Test.YtjffmdfkodkidaaP4
set_option linter.unusedSimpArgs false
set_option linter.unusedVariables false
set_option linter.unusedSectionVars false
set_option linter.deprecated false
namespace Go.Proofs.Ytjffmdfkodkidaa
open Go.RowKit
set_option linter.unusedVariables false
set_option maxRecDepth 10000 in
set_option maxHeartbeats 2000000 in
theorem rdouble_full (w : World) (a : Option Addr) (n c : Nat) (s : Int) (Ls : List (List Int)) (i : Nat) (bs : List Int) (h : RefL w (.slice a n c) Ls) (hi : Ls[i]? = some bs) (hn : 512 ≤ n) (hl : bs.length ≤ 1048592) :
    Calls Try.prog 28 #[.agg #[.slice a n c, .int .i64 s], .int .i64 i] w fun e w' => e = .returned (.tuple #[.agg #[.slice a n c, .int .i64 s], .int .i64 9]) ∧ Still w w' := by
  have hlen := h.heads.1
  have hlt : i < Ls.length := (List.getElem?_eq_some_iff.1 hi).1
  have hin := fun w => in_ok w a n c s i
  have hd : decide ((0 : Int) ≤ i ∧ (i : Int) < n) = true := decide_eq_true ⟨by omega, by omega⟩
  simp only [hd] at hin
  have hlt' : (i : Int) < (n : Int) := by omega
  go_enter Try.func28, Try.ntmps28
  go_wp2_with (go_at_call 31; refine (hin _).mono ?_; rintro e w' ⟨rfl, o2, rfl⟩)
  have B1 : Boxes w (((w.alloc (.cells #[.slice a n c, .int .i64 s] 41)).alloc (.cells #[.slice none 0 0, .int .i64 0] 41)).alloc o2) a n c s #[.slice none 0 0, .int .i64 0] := (Boxes.start w a n c s _).alloc o2
  generalize ((w.alloc (.cells #[.slice a n c, .int .i64 s] 41)).alloc (.cells #[.slice none 0 0, .int .i64 0] 41)).alloc o2 = W1 at *
  have R1 := h.still B1.still
  obtain ⟨b, o, y, rfl, hcy, hY⟩ := R1.at hi
  have hsend := rsend_full W1.drew (some ⟨b, o, none⟩) n c s y bs (hY.still (still_drew _)) hn hl
  have hb0 := B1.cell0
  have hb1 := B1.cell1
  clear h hi hd hlen hin
  go_region_law (go_simp; go_at_call 25; refine hsend.mono ?_; rintro e w5 ⟨rfl, S5⟩; have B5 : Boxes w w5 (some ⟨b, o, none⟩) n c s #[.slice none 0 0, .int .i64 0] := B1.still_ ((still_drew _).trans S5); have hr0 : w5.cell? ⟨w.heap.size + 1, 0, none⟩ = some (.slice none 0 0) := (by simp [World.cell?, B5.res]); have hr1 : w5.cell? ⟨w.heap.size + 1, 1, none⟩ = some (.int .i64 0) := (by simp [World.cell?, B5.res]); have hf0 : w5.frozen? ⟨w.heap.size + 1, 0, none⟩ = false := (by simp [World.frozen?, B5.res]); have hf1 : w5.frozen? ⟨w.heap.size + 1, 1, none⟩ = false := (by simp [World.frozen?, B5.res]))
  all_goals go_wp2
  all_goals (
    refine bodyPost_ret (v := .tuple #[.agg #[.slice (some ⟨b, o, none⟩) n c, .int .i64 s], .int .i64 9]) (by rw [results_cell_tmp rfl]; go_simp) rfl ⟨rfl, ?_⟩
    exact (boxes_set B5 (RefL.nil w5) (fun k hk => by cases hk) _ _).2)
end Go.Proofs.Ytjffmdfkodkidaa

namespace Go.Proofs.Ytjffmdfkodkidaa
open Go.RowKit
set_option linter.unusedVariables false
theorem rspoil_out (w : World) (a : Option Addr) (n c : Nat) (s i at_ by_ : Int) (hi : i < 0 ∨ (n : Int) ≤ i) : Calls Try.prog 29 #[.agg #[.slice a n c, .int .i64 s], .int .i64 i, .int .i64 at_, .int .u8 by_] w fun e w' => e = .returned (.tuple #[.agg #[.slice a n c, .int .i64 s], .int .i64 4]) ∧ Still w w' := by
  have hin := fun w => in_ok w a n c s i
  have hd : decide ((0 : Int) ≤ i ∧ (i : Int) < n) = false := decide_eq_false (by omega)
  simp only [hd] at hin
  clear hi hd
  go_enter Try.func29, Try.ntmps29
  go_wp2_with (go_at_call 31; refine (hin _).mono ?_; rintro e w' ⟨rfl, o2, rfl⟩; have B1 := (Boxes.start w a n c s #[.slice none 0 0, .int .i64 0]).alloc o2; generalize ((w.alloc (.cells #[.slice a n c, .int .i64 s] 41)).alloc (.cells #[.slice none 0 0, .int .i64 0] 41)).alloc o2 = W1 at *; have hb0 := B1.cell0; have hb1 := B1.cell1; have hr0 : W1.cell? ⟨w.heap.size + 1, 0, none⟩ = some (.slice none 0 0) := (by simp [World.cell?, B1.res]); have hr1 : W1.cell? ⟨w.heap.size + 1, 1, none⟩ = some (.int .i64 0) := (by simp [World.cell?, B1.res]); have hf0 : W1.frozen? ⟨w.heap.size + 1, 0, none⟩ = false := (by simp [World.frozen?, B1.res]); have hf1 : W1.frozen? ⟨w.heap.size + 1, 1, none⟩ = false := (by simp [World.frozen?, B1.res]))
  all_goals (
    refine bodyPost_ret (v := .tuple #[.agg #[.slice a n c, .int .i64 s], .int .i64 4]) (by rw [results_cell_tmp rfl]; go_simp) rfl ⟨rfl, ?_⟩
    exact (boxes_set B1 (RefL.nil W1) (fun k hk => by cases hk) _ _).2)
theorem rspoil_bad (w : World) (a : Option Addr) (n c : Nat) (s : Int) (Ls : List (List Int)) (i : Nat) (bs : List Int) (at_ by_ : Int) (h : RefL w (.slice a n c) Ls) (hi : Ls[i]? = some bs) (hb : at_ < 0 ∨ (bs.length : Int) ≤ at_ ∨ by_ = 0) :
    Calls Try.prog 29 #[.agg #[.slice a n c, .int .i64 s], .int .i64 i, .int .i64 at_, .int .u8 by_] w fun e w' => e = .returned (.tuple #[.agg #[.slice a n c, .int .i64 s], .int .i64 4]) ∧ Still w w' := by
  have hlen := h.heads.1
  have hlt : i < Ls.length := (List.getElem?_eq_some_iff.1 hi).1
  have hin := fun w => in_ok w a n c s i
  have hd : decide ((0 : Int) ≤ i ∧ (i : Int) < n) = true := decide_eq_true ⟨by omega, by omega⟩
  simp only [hd] at hin
  have hlt' : (i : Int) < (n : Int) := by omega
  obtain ⟨b, o, y, rfl, hcy, hY⟩ := h.at hi
  obtain ⟨a2, c2, rfl, _⟩ := hY
  have hcW : ∀ o1 o2 o3, (((w.alloc o1).alloc o2).alloc o3).cell? ⟨b, o + i, none⟩ = some (.slice a2 bs.length c2) := fun o1 o2 o3 => cell_alloc_lt (cell_alloc_lt (cell_alloc_lt hcy))
  have hcond : (decide (at_ < 0) || decide ((bs.length : Int) ≤ at_) || (by_ == 0)) = true := by
    rcases hb with h | h | h
    · simp [h]
    · simp [h]
    · simp [h]
  clear h hi hd hlen hcy hb
  go_enter Try.func29, Try.ntmps29
  go_wp2_with (go_at_call 31; refine (hin _).mono ?_; rintro e w' ⟨rfl, o2, rfl⟩; have B1 := (Boxes.start w (some ⟨b, o, none⟩) n c s #[.slice none 0 0, .int .i64 0]).alloc o2; have hcy := hcW (.cells #[.slice (some ⟨b, o, none⟩) n c, .int .i64 s] 41) (.cells #[.slice none 0 0, .int .i64 0] 41) o2; clear hcW; generalize ((w.alloc (.cells #[.slice (some ⟨b, o, none⟩) n c, .int .i64 s] 41)).alloc (.cells #[.slice none 0 0, .int .i64 0] 41)).alloc o2 = W1 at *; have hb0 := B1.cell0; have hb1 := B1.cell1; have hr0 : W1.cell? ⟨w.heap.size + 1, 0, none⟩ = some (.slice none 0 0) := (by simp [World.cell?, B1.res]); have hr1 : W1.cell? ⟨w.heap.size + 1, 1, none⟩ = some (.int .i64 0) := (by simp [World.cell?, B1.res]); have hf0 : W1.frozen? ⟨w.heap.size + 1, 0, none⟩ = false := (by simp [World.frozen?, B1.res]); have hf1 : W1.frozen? ⟨w.heap.size + 1, 1, none⟩ = false := (by simp [World.frozen?, B1.res]))
  all_goals (
    refine bodyPost_ret (v := .tuple #[.agg #[.slice (some ⟨b, o, none⟩) n c, .int .i64 s], .int .i64 4]) (by rw [results_cell_tmp rfl]; go_simp) rfl ⟨rfl, ?_⟩
    exact (boxes_set B1 (RefL.nil W1) (fun k hk => by cases hk) _ _).2)
end Go.Proofs.Ytjffmdfkodkidaa

namespace Go.Proofs.Ytjffmdfkodkidaa
open Go.RowKit
set_option linter.unusedVariables false
theorem Bytes.source {w : World} {a2 : Option Addr} {m c2 : Nat} {bs : List Int} (h : Bytes w (.slice a2 m c2) bs) : bs.length = m ∧ (a2 = none → m = 0 ∧ c2 = 0) ∧ ∀ ad, a2 = some ad → ∀ (j : Nat) (u : Value), (bytesV bs)[j]? = some u → w.cell? (ad.add j) = some u := by
  obtain ⟨a', c', he, h1, h2⟩ := h
  simp only [Value.slice.injEq] at he
  obtain ⟨rfl, rfl, rfl⟩ := he
  refine ⟨rfl, fun ha => ⟨?_, h1 ha⟩, fun ad had j u hj => ?_⟩
  · apply Decidable.byContradiction
    intro hne
    obtain ⟨p, o, cur, he, _⟩ := h2 (by omega)
    rw [ha] at he
    cases he
  · have hlt : j < bs.length := by simpa using (List.getElem?_eq_some_iff.1 hj).1
    obtain ⟨p, o, cur, he, h3, h4⟩ := h2 (by omega)
    rw [had] at he
    simp only [Option.some.injEq] at he
    subst he
    have e : (⟨p, o, none⟩ : Addr).add j = ⟨p, o + j, none⟩ := by unfold Addr.add; split <;> simp_all
    rw [e]
    simp only [World.cell?, h3, h4 j hlt, ← hj]
    simp [hlt]
/-- Behind the first append of the reference: its list, copied. -/
structure CopyS (w w3 : World) (a : Option Addr) (n c : Nat) (s : Int) (v1 : Value) (Ls : List (List Int)) (ys : List Value) : Prop where
  bx : Boxes w w3 a n c s #[.slice none 0 0, .int .i64 0]
  own : w3.ownsRow (w.heap.size + 2) 22 1 v1 n ys
  ref : ∀ (i : Nat) (bs : List Int), Ls[i]? = some bs → ∃ y, ys[i]? = some y ∧ Bytes w3 y bs
  size : w.heap.size + 2 ≤ w3.heap.size
theorem copyS {w W1 w3 : World} {a : Option Addr} {n c : Nat} {s : Int} {v1 : Value} {Ls : List (List Int)} {ys : List Value} (B1 : Boxes w W1 a n c s #[.slice none 0 0, .int .i64 0]) (hsz : w.heap.size + 2 ≤ W1.heap.size)
    (hy : ∀ (i : Nat) (bs : List Int), Ls[i]? = some bs → ∃ y, ys[i]? = some y ∧ Bytes W1 y bs) (hown : w3.ownsRow (w.heap.size + 2) 22 1 v1 n ys) (hg : (W1.alloc (.cells #[] 22)).grownBy w3 (some W1.heap.size)) : CopyS w w3 a n c s v1 Ls ys := by
  have hst : Still W1 w3 := still_grown (w := W1) (Chg.alloc _ W1 _) hg (fun k hk => by simp only [Option.some.injEq] at hk; omega)
  refine ⟨B1.still_ hst, hown, fun i bs hi => ?_, Nat.le_trans hsz hst.size⟩
  obtain ⟨y, g1, g2⟩ := hy i bs hi
  exact ⟨y, g1, g2.still hst⟩
theorem Boxes.set_ {w wi : World} {a : Option Addr} {n c : Nat} {s : Int} {r : Array Value} (h : Boxes w wi a n c s r) {p : Nat} (hp : w.heap.size + 2 ≤ p) (k : Nat) (x : Value) : Boxes w (wi.setCell ⟨p, k, none⟩ x) a n c s r := by
  have hC := Chg.set wi p k x
  refine ⟨⟨hC.os.trans h.still.os, hC.tape.trans h.still.tape, hC.output.trans h.still.output, Nat.le_trans h.still.size hC.size, fun j hj _ => ?_⟩, hC.at h.box (by omega), hC.at h.res (by omega)⟩
  rw [hC.block j (Nat.lt_of_lt_of_le hj h.still.size) (by omega), h.still.block j hj (fun h => h)]
theorem Row.bytes {w : World} {p : Nat} {bs : List Int} (h : Row w p bs) (c : Nat) : Bytes w (.slice (some ⟨p, 0, none⟩) bs.length c) bs := by
  have hr := h
  obtain ⟨cur, h1, h2, h3⟩ := h
  refine ⟨_, _, rfl, (fun h => by cases h), fun _ => ⟨p, 0, cur, rfl, h1, fun k hk => ?_⟩⟩
  have := hr.cell hk
  rw [Nat.zero_add]
  simpa [World.cell?, h1] using this
/-- A byte of one of the reference's lists is another one. -/
theorem spoil_ref {w3 w4 : World} {Ls : List (List Int)} {ys : List Value} {g g2 n i at_ cap1 cap2 : Nat} {cur : Array Value} {bs : List Int} {by_ : Int}
    (hY : ∀ (j : Nat) (b : List Int), Ls[j]? = some b → ∃ y, ys[j]? = some y ∧ Bytes w3 y b) (hst : Still w3 w4) (hg : w3.heap[g]? = some (.cells cur 22 (0, 0))) (hsz : n ≤ cur.size) (hcap : n ≤ cap1) (htk : cur.toList.take n = ys) (hlen : Ls.length = n) (hi : Ls[i]? = some bs)
    (hR : Row w4 g2 bs) (hlow : w3.heap.size ≤ g2) (hat : at_ < bs.length) :
    RefL (((w4.setCell ⟨g, i, none⟩ (.slice (some ⟨g2, 0, none⟩) bs.length cap2)).setCell ⟨g2, at_, none⟩ (.int .u8 (bits .xor .u8 (bs.getD at_ 0) by_))).drew) (.slice (some ⟨g, 0, none⟩) n cap1) (Ls.set i (flip bs at_ by_)) := by
  have hgl : g < w3.heap.size := (Array.getElem?_eq_some_iff.1 hg).1
  have hne : g2 ≠ g := by omega
  have hg4 : w4.heap[g]? = some (.cells cur 22 (0, 0)) := hst.at hg (fun h => h)
  have hg5 : (w4.setCell ⟨g, i, none⟩ (.slice (some ⟨g2, 0, none⟩) bs.length cap2)).heap[g]? = some (.cells (cur.setIfInBounds i (.slice (some ⟨g2, 0, none⟩) bs.length cap2)) 22 (0, 0)) := by
    rw [setCell_eq_setRow w4 g i cur 22 _ _ hg4]
    exact setRow_heap w4 g _ _ 22 _ hg4
  have hR5 : Row (w4.setCell ⟨g, i, none⟩ (.slice (some ⟨g2, 0, none⟩) bs.length cap2)) g2 bs := hR.chg (Chg.set w4 g i _) hne
  have hR6 : Row ((w4.setCell ⟨g, i, none⟩ (.slice (some ⟨g2, 0, none⟩) bs.length cap2)).setCell ⟨g2, at_, none⟩ (.int .u8 (bits .xor .u8 (bs.getD at_ 0) by_))).drew g2 (flip bs at_ by_) := hR5.set hat by_
  have hg6 : ((w4.setCell ⟨g, i, none⟩ (.slice (some ⟨g2, 0, none⟩) bs.length cap2)).setCell ⟨g2, at_, none⟩ (.int .u8 (bits .xor .u8 (bs.getD at_ 0) by_))).drew.heap[g]? = some (.cells (cur.setIfInBounds i (.slice (some ⟨g2, 0, none⟩) bs.length cap2)) 22 (0, 0)) :=
    (Chg.set (w4.setCell ⟨g, i, none⟩ (.slice (some ⟨g2, 0, none⟩) bs.length cap2)) g2 at_ _).at hg5 (fun e => hne e.symm)
  have hC : Chg (fun k => k = g ∨ k = g2) w3 ((w4.setCell ⟨g, i, none⟩ (.slice (some ⟨g2, 0, none⟩) bs.length cap2)).setCell ⟨g2, at_, none⟩ (.int .u8 (bits .xor .u8 (bs.getD at_ 0) by_))).drew :=
    ⟨hst.os, hst.tape, hst.output, by have := hst.size; simpa [World.setCell] using this, fun k hk hs => by
      have h1 := (Chg.set (w4.setCell ⟨g, i, none⟩ (.slice (some ⟨g2, 0, none⟩) bs.length cap2)) g2 at_ (.int .u8 (bits .xor .u8 (bs.getD at_ 0) by_))).block k (by have := hst.size; simp [World.setCell]; omega) (fun e => hs (.inr e))
      have h2 := (Chg.set w4 g i (.slice (some ⟨g2, 0, none⟩) bs.length cap2)).block k (by have := hst.size; omega) (fun e => hs (.inl e))
      have h3 := hst.block k hk (fun h => h)
      exact h1.trans (h2.trans h3)⟩
  generalize ((w4.setCell ⟨g, i, none⟩ (.slice (some ⟨g2, 0, none⟩) bs.length cap2)).setCell ⟨g2, at_, none⟩ (.int .u8 (bits .xor .u8 (bs.getD at_ 0) by_))).drew = W6 at *
  have hil : i < Ls.length := (List.getElem?_eq_some_iff.1 hi).1
  refine ⟨some ⟨g, 0, none⟩, cap1, by simp [hlen], ⟨(fun h => by cases h), by simp; omega⟩, fun _ => ⟨g, 0, _, rfl, hg6, by simp; omega, fun j b hj => ?_⟩⟩
  rw [Nat.zero_add, Array.getElem?_setIfInBounds]
  rw [List.getElem?_set] at hj
  by_cases hij : i = j
  · subst hij
    rw [if_pos rfl, if_pos (by omega)]
    rw [if_pos rfl, if_pos hil] at hj
    simp only [Option.some.injEq] at hj
    subst hj
    refine ⟨_, rfl, ?_⟩
    have := hR6.bytes cap2
    rwa [length_flip] at this
  · rw [if_neg hij]
    rw [if_neg hij] at hj
    obtain ⟨y, h1, h2⟩ := hY j b hj
    have hjl : j < n := by have := (List.getElem?_eq_some_iff.1 hj).1; omega
    refine ⟨y, ?_, h2.chg hC (fun k cur' hk => ?_)⟩
    · rw [← htk, List.getElem?_take_of_lt hjl] at h1
      simpa using h1
    · rintro (rfl | rfl)
      · rw [hg] at hk
        simp only [Option.some.injEq, Obj.cells.injEq] at hk
        exact absurd hk.2.1 (by decide)
      · have := (Array.getElem?_eq_some_iff.1 hk).1
        omega
set_option maxRecDepth 10000 in
set_option maxHeartbeats 2000000 in
theorem rspoil_ok (w : World) (a : Option Addr) (n c : Nat) (s : Int) (Ls : List (List Int)) (i : Nat) (bs : List Int) (at_ : Nat) (by_ : Int) (h : RefL w (.slice a n c) Ls) (hi : Ls[i]? = some bs) (hat : at_ < bs.length) (hby : by_ ≠ 0) (hn : n ≤ 512) (hl : bs.length ≤ 1048592) :
    Calls Try.prog 29 #[.agg #[.slice a n c, .int .i64 s], .int .i64 i, .int .i64 at_, .int .u8 by_] w fun e w' => ∃ u', e = .returned (.tuple #[.agg #[u', .int .i64 s], .int .i64 0]) ∧ RefL w' u' (Ls.set i (flip bs at_ by_)) ∧ Still w w' ∧ ∀ k, u'.ownBlock = some k → w.heap.size ≤ k := by
  have hlen := h.heads.1
  have hlt : i < Ls.length := (List.getElem?_eq_some_iff.1 hi).1
  have hin := fun w => in_ok w a n c s i
  have hd : decide ((0 : Int) ≤ i ∧ (i : Int) < n) = true := decide_eq_true ⟨by omega, by omega⟩
  simp only [hd] at hin
  have hlt' : (i : Int) < (n : Int) := by omega
  have hz5 : Try.t5.zero = some (.int .u8 0) := by kernel_rfl
  have hi5 : Try.prog.info? 5 = some Try.t5 := by kernel_rfl
  have hsz22 : Try.t22.size = 1 := by kernel_rfl
  have hby22 : Try.t22.bytes = 24 := by kernel_rfl
  have hz22 : Try.t22.zero = some (.slice none 0 0) := by kernel_rfl
  have hi22 : Try.prog.info? 22 = some Try.t22 := by kernel_rfl
  obtain ⟨b, o, y, rfl, hcy, hY⟩ := h.at hi
  obtain ⟨a2, c2, rfl, _⟩ := id hY
  have hcW : ∀ o1 o2 o3, (((w.alloc o1).alloc o2).alloc o3).cell? ⟨b, o + i, none⟩ = some (.slice a2 bs.length c2) := fun o1 o2 o3 => cell_alloc_lt (cell_alloc_lt (cell_alloc_lt hcy))
  have hn2 : ¬ ((bs.length : Int) ≤ (at_ : Int)) := by omega
  have hn3 : (by_ == 0) = false := by simpa using hby
  have hn4 : decide ((at_ : Int) < 0) = false := by simp
  have hn5 : ¬ (bs.length ≤ at_) := by omega
  go_enter Try.func29, Try.ntmps29
  go_wp2_with (first
    | (go_at_call 31; refine (hin _).mono ?_; rintro e w' ⟨rfl, o2, rfl⟩; have B1 := (Boxes.start w (some ⟨b, o, none⟩) n c s #[.slice none 0 0, .int .i64 0]).alloc o2; have hsz : w.heap.size + 2 ≤ (((w.alloc (.cells #[.slice (some ⟨b, o, none⟩) n c, .int .i64 s] 41)).alloc (.cells #[.slice none 0 0, .int .i64 0] 41)).alloc o2).heap.size := (by rw [World.size_alloc, World.size_alloc, World.size_alloc]; omega); have hcy1 := hcW (.cells #[.slice (some ⟨b, o, none⟩) n c, .int .i64 s] 41) (.cells #[.slice none 0 0, .int .i64 0] 41) o2; generalize ((w.alloc (.cells #[.slice (some ⟨b, o, none⟩) n c, .int .i64 s] 41)).alloc (.cells #[.slice none 0 0, .int .i64 0] 41)).alloc o2 = W1 at *; have R1 := h.still B1.still; obtain ⟨_, hnone, ys, hyl, hread, hyb, hone⟩ := R1.heads; have hlt1 : w.heap.size < W1.heap.size := (by omega); have hb0 := B1.cell0; have hb1 := B1.cell1; clear hcW h hin hd R1)
    | (at_builtin; refine wpList_append_src _ rfl (.tmp 34) (.tmp 36) 39 rfl (w.heap.size + 2) 22 Try.t22 (.slice none 0 0) 1 24 Try.underlying39 hi22 hz22 hsz22 hby22 rfl (by decide) (.slice (some ⟨W1.heap.size, 0, none⟩) 0 0) 0 [] (by simp [Act.eval]) (own_fresh0 W1 22 _ hsz) (some ⟨b, o, none⟩) n c ys (by simp [Act.eval]) (by omega) (fun ad had j u hj => cell_alloc_lt (hread ad had j u hj)) hnone hone (by unfold maxLen; omega) (by omega) (by rw [World.size_alloc]; omega) ?_))
  intro v1 w3 hown hgrow _
  have C3 := copyS B1 hsz hyb hown hgrow
  have hone1 : ∀ y ∈ ys, y.oneCell' = true := hone
  clear hown hgrow hone hread hyb B1 hsz hb0 hb1 hlt1 hcy1 hnone
  obtain ⟨ao1, cap1, rfl⟩ := own_form C3.own
  obtain ⟨y3, hy3, hB3⟩ := C3.ref i bs hi
  rcases C3.own.2 with ⟨h0, _⟩ | ⟨g, cap, cur, hv, hgl, hg, hnc, hcm, hcs, htk⟩
  · simp only [Value.slice.injEq] at h0
    omega
  simp only [Value.slice.injEq, true_and] at hv
  obtain ⟨rfl, rfl⟩ := hv
  simp only [Nat.mul_one] at hcs htk
  have hcg : w3.cell? ⟨g, i, none⟩ = some y3 := by
    rw [← htk, List.getElem?_take_of_lt (by omega)] at hy3
    simpa [World.cell?, hg] using hy3
  obtain ⟨a4, c4, rfl, _⟩ := id hB3
  obtain ⟨_, hnone4, hread4⟩ := hB3.source
  have hglt : g < w3.heap.size := (Array.getElem?_eq_some_iff.1 hg).1
  have hcg1 : ∀ o1, (w3.alloc o1).cell? ⟨g, i, none⟩ = some (.slice a4 bs.length c4) := fun o1 => cell_alloc_lt hcg
  have hkn : (i : Int) < (n : Int) := by omega
  go_wp2_with (at_builtin; refine wpList_append_src _ rfl (.tmp 40) (.tmp 44) 22 rfl (w.heap.size + 2) 5 Try.t5 (.int .u8 0) 1 1 Try.underlying22 hi5 hz5 size5 bytes5 rfl (by decide) (.slice (some ⟨w3.heap.size, 0, none⟩) 0 0) 0 [] (by simp [Act.eval]) (own_fresh0 w3 5 _ C3.size) a4 bs.length c4 (bytesV bs) (by simp [Act.eval]) (by simp) (fun ad had j u hj => cell_alloc_lt (hread4 ad had j u hj)) hnone4 (one_bytes bs) (by unfold maxLen; omega) (by omega) (by rw [World.size_alloc]; have := C3.size; omega) ?_)
  intro v2 w4 hown4 hg4 hfresh
  have hst4 : Still w3 w4 := still_grown (w := w3) (Chg.alloc _ w3 _) hg4 (fun k hk => by simp only [Value.ownBlock, Option.some.injEq] at hk; omega)
  have B4 := C3.bx.still_ hst4
  have hg4c : w4.heap[g]? = some (.cells cur 22 (0, 0)) := hst4.at hg (fun h => h)
  have hY4 : Bytes w4 v2 bs := Bytes.row hown4
  rcases hown4.2 with ⟨_, h0⟩ | ⟨g2, cap2, cur2, rfl, hgl2, hg2, hsz2, _, hsz3, htk2⟩
  · omega
  have hne : g2 ≠ g := fun e => by
    rw [e, hg4c] at hg2
    simp only [Option.some.injEq, Obj.cells.injEq] at hg2
    exact absurd hg2.2.1 (by decide)
  have hc4 : w4.cell? ⟨g, i, none⟩ = some (.slice a4 bs.length c4) := by
    rw [← hcg]
    simp only [World.cell?, hg4c, hg]
  have hf4 : w4.frozen? ⟨g, i, none⟩ = false := by simp [World.frozen?, hg4c]
  obtain ⟨bv, hbv⟩ : ∃ bv, bv = bs.getD at_ 0 := ⟨_, rfl⟩
  obtain ⟨p2, o2', he2, _, hbytes⟩ := id hY4
  have hbyte : w4.cell? ⟨g2, at_, none⟩ = some (.int .u8 bv) := by
    obtain ⟨a5, c5, h5, _, h6⟩ := hY4
    obtain ⟨p, o', cur', h7, h8, h9⟩ := h6 (by omega)
    rw [h7] at h5
    simp only [Value.slice.injEq, Option.some.injEq, Addr.mk.injEq, and_true] at h5
    obtain ⟨⟨rfl, rfl⟩, _⟩ := h5
    have := h9 at_ hat
    rw [Nat.zero_add] at this
    rw [hbv]
    simpa [World.cell?, h8] using this
  have hfb : w4.frozen? ⟨g2, at_, none⟩ = false := by simp [World.frozen?, hg2]
  have W5c : (w4.setCell ⟨g, i, none⟩ (.slice (some ⟨g2, 0, none⟩) bs.length cap2)).cell? ⟨g, i, none⟩ = some (.slice (some ⟨g2, 0, none⟩) bs.length cap2) := World.cell?_setCell_same _ _ _ hc4
  have W5b : (w4.setCell ⟨g, i, none⟩ (.slice (some ⟨g2, 0, none⟩) bs.length cap2)).cell? ⟨g2, at_, none⟩ = some (.int .u8 bv) := by
    rw [World.cell?_setCell_other _ _ _ _ (by simp [Ne.symm hne])]
    exact hbyte
  have W5f : (w4.setCell ⟨g, i, none⟩ (.slice (some ⟨g2, 0, none⟩) bs.length cap2)).frozen? ⟨g2, at_, none⟩ = false := by rw [World.frozen?_setCell]; exact hfb
  have hatn : (at_ : Int) < (bs.length : Int) := by omega
  have hlow : w3.heap.size ≤ g2 := by
    rcases hfresh with h | h
    · simp only [Value.ownBlock, Option.some.injEq] at h; omega
    · have := h g2 rfl; simp at this; omega
  have hRw : Row w4 g2 bs := ⟨cur2, hg2, by omega, by simpa using htk2⟩
  have HREF : Hid (∀ by_, RefL (((w4.setCell ⟨g, i, none⟩ (.slice (some ⟨g2, 0, none⟩) bs.length cap2)).setCell ⟨g2, at_, none⟩ (.int .u8 (bits .xor .u8 (bs.getD at_ 0) by_))).drew) (.slice (some ⟨g, 0, none⟩) n cap1) (Ls.set i (flip bs at_ by_))) := fun by_ => spoil_ref C3.ref hst4 hg (by omega) hnc htk hlen hi hRw hlow hat
  clear hown4 hg4 C3 hY4 he2 hbytes hread4 hnone4 hcg1 hRw hfresh
  have B5 := B4.set_ hgl i (.slice (some ⟨g2, 0, none⟩) bs.length cap2)
  have hb5 := B5.cell0
  have hb51 := B5.cell1
  have B6 : ∀ x, Boxes w ((w4.setCell ⟨g, i, none⟩ (.slice (some ⟨g2, 0, none⟩) bs.length cap2)).drew.setCell ⟨g2, at_, none⟩ x) (some ⟨b, o, none⟩) n c s #[.slice none 0 0, .int .i64 0] := fun x => B5.drew.set_ hgl2 at_ x
  go_wp2_with (go_at_call 99; skip)
  have HREF := HREF.out
  generalize w4.setCell ⟨g, i, none⟩ (.slice (some ⟨g2, 0, none⟩) bs.length cap2) = W5 at *
  have HREF : Hid _ := HREF
  have hatn2 : at_ < bs.length := hat
  go_region
  refine (‹∀ (a : Act) (w : World), Code.wp Try.prog _ _ a w → _› _ _ ?_)
  have B7 : Boxes w (W5.setCell ⟨g2, at_, none⟩ (.int .u8 (bits .xor .u8 (bs.getD at_ 0) by_))).drew (some ⟨b, o, none⟩) n c s #[.slice none 0 0, .int .i64 0] := B6 _
  have R7 := HREF.out by_
  have hgd : bs.getD at_ 0 = bs[at_] := by simp [List.getD, hatn2]
  rw [hgd] at B7 R7
  clear HREF B6 B5 W5c W5b W5f hb5 hb51
  generalize (W5.setCell ⟨g2, at_, none⟩ (.int .u8 (bits .xor .u8 bs[at_] by_))).drew = W6 at *
  have hb6 := B7.cell0
  have hb61 := B7.cell1
  have hr0 : W6.cell? ⟨w.heap.size + 1, 0, none⟩ = some (.slice none 0 0) := by simp [World.cell?, B7.res]
  have hr1 : W6.cell? ⟨w.heap.size + 1, 1, none⟩ = some (.int .i64 0) := by simp [World.cell?, B7.res]
  have hf0 : W6.frozen? ⟨w.heap.size + 1, 0, none⟩ = false := by simp [World.frozen?, B7.res]
  have hf1 : W6.frozen? ⟨w.heap.size + 1, 1, none⟩ = false := by simp [World.frozen?, B7.res]
  have RH : Hid _ := R7
  clear R7
  go_wp2
  refine bodyPost_ret (v := .tuple #[.agg #[.slice (some ⟨g, 0, none⟩) n cap1, .int .i64 s], .int .i64 0]) (by rw [results_cell_tmp rfl]; go_simp) rfl ⟨_, rfl, ?_, ?_, ?_⟩
  · exact (boxes_set B7 RH.out (fun k hk e => by simp only [Value.ownBlock, Option.some.injEq] at hk; omega) _ _).1
  · exact (boxes_set B7 RH.out (fun k hk e => by simp only [Value.ownBlock, Option.some.injEq] at hk; omega) _ _).2
  · intro k hk
    simp only [Value.ownBlock, Option.some.injEq] at hk
    omega
end Go.Proofs.Ytjffmdfkodkidaa

namespace Go.Proofs.Ytjffmdfkodkidaa
open Go.RowKit
set_option linter.unusedVariables false
theorem Net.still {B : Nat} {w w' : World} {bm : Nat} {v : Value} {L : List (Nat × List Int)} {sent : Int} (H : Net B w bm v L sent) (hc : Still w w') : Net B w' bm v L sent := H.chg hc (fun h => h) (fun _ _ h => h) (fun _ _ h => h)
structure IsS (B : Nat) (w : World) (bm : Nat) (v : Value) (L : List (Nat × List Int)) (sent : Int) (a : Option Addr) (c : Nat) (wr : World) : Prop where
  net : Net B wr bm v L sent
  ref : RefL wr (.slice a L.length c) (L.map (·.2))
  still : Still w wr
  box : wr.heap[w.heap.size]? = some (.cells #[.slice a L.length c, .int .i64 sent] 41 (0, 0))
set_option maxRecDepth 10000 in
set_option maxHeartbeats 2000000 in
theorem is_ok (B : Nat) (w : World) (bm : Nat) (v : Value) (L : List (Nat × List Int)) (sent : Int) (H : Net B w bm v L sent) (a : Option Addr) (c : Nat) (hR : RefL w (.slice a L.length c) (L.map (·.2))) (hl : ∀ x ∈ L, x.2.length ≤ 1048592) (hL : L.length ≤ 512) :
    Calls Try.prog 20 #[.pointer (some ⟨bm, 0, none⟩), .agg #[.slice a L.length c, .int .i64 sent]] w fun e w' => e = .returned (.bool true) ∧ Still w w' := by
  have H1 : ∀ o, Net B (w.alloc o) bm v L sent := fun o => H.alloc' o
  go_enter Try.func20, Try.ntmps20
  go_wp2
  have HH := H1 (.cells #[.slice a L.length c, .int .i64 sent] 41)
  have hdn : ∀ (wi : World) (m : Nat), Still wi (wi.drewN m) := fun wi m => ⟨rfl, rfl, rfl, Nat.le_refl _, fun _ _ _ => rfl⟩
  have hq1 := fun m => len_ok (HH.still (hdn _ m))
  have hq2 := fun m => sent_ok (HH.still (hdn _ m))
  have hc0 := (fun (m : Nat) => heap_alloc_new w (.cells #[.slice a L.length c, .int .i64 sent] 41))
  go_quiet (first | (go_at_call 15; refine Calls.quiet_of_same (hq1 _)) | (go_at_call 16; refine Calls.quiet_of_same (hq2 _)))
  go_wp2
  have hI0 : IsS B w bm v L sent a c ((w.alloc (.cells #[.slice a L.length c, .int .i64 sent] 41)).drewN nq) :=
    ⟨HH.still (hdn _ _), hR.still ((Chg.alloc _ w _).trans (hdn _ _)), (Chg.alloc _ w _).trans (hdn _ _), heap_alloc_new w _⟩
  clear hq1 hq2 hc0 HH H1 hR H
  generalize (w.alloc (.cells #[.slice a L.length c, .int .i64 sent] 41)).drewN nq = w1 at *
  go_loopw [5] (fun i wr => ∃ k : Nat, k ≤ L.length ∧ i = .int .i64 k ∧ Hid (IsS B w bm v L sent a c wr)) (fun i _ => L.length - (intOf i).toNat)
  case atStart => exact ⟨0, by omega, rfl, hI0⟩
  case round =>
    clear hI0
    obtain ⟨k, hk, rfl, hF⟩ := hrel
    have F := hF.out
    clear hF
    have hb0 : wr.cell? ⟨w.heap.size, 0, none⟩ = some (.slice a L.length c) := by simp [World.cell?, F.box]
    by_cases hlt : k < L.length
    · have hlt' : (k : Int) < (L.length : Int) := by omega
      obtain ⟨x, hx⟩ : ∃ x, L[k]? = some x := ⟨L[k], List.getElem?_eq_getElem hlt⟩
      have hxl := hl x (List.mem_of_getElem? hx)
      have hmx : (L.map (·.2))[k]? = some x.2 := by simp [hx]
      go_wp2_with (go_at_call 99; skip)
      go_at_call 11
      refine (look_st F.net k x hx hxl).mono ?_
      rintro e w2 ⟨p, rfl, hp, P2, N2, C2⟩
      have R2 := F.ref.still C2
      have S2 := F.still.trans C2
      have box2 : w2.heap[w.heap.size]? = some (.cells #[.slice a L.length c, .int .i64 sent] 41 (0, 0)) := C2.at F.box (fun h => h)
      have hb2 : w2.cell? ⟨w.heap.size, 0, none⟩ = some (.slice a L.length c) := by simp [World.cell?, box2]
      obtain ⟨b, o, y, rfl, hcy, hY⟩ := R2.at hmx
      clear F C2
      go_wp2_with (go_at_call 99; skip)
      go_at_call 14
      refine (same_eq w2 _ _ x.2 (P2.reads x.2.length) hY.reads (by omega)).mono ?_
      rintro e w3 ⟨rfl, C3⟩
      have HF3 : Hid (IsS B w bm v L sent (some ⟨b, o, none⟩) c w3) := ⟨N2.still C3, R2.still C3, S2.trans C3, C3.at box2 (fun h => h)⟩
      clear R2 S2 box2 hb2 N2 P2 hY hcy C3 hp
      go_wp2
      go_roundw
      case rel => exact ⟨k + 1, by omega, by go_num, HF3⟩
      case measure => simp only [intOf]; omega
    · have hlt' : ¬ (k : Int) < (L.length : Int) := by omega
      have hS := F.still
      clear F
      go_wp2
      go_ret
      exact ⟨rfl, hS⟩
end Go.Proofs.Ytjffmdfkodkidaa

namespace Go.Proofs.Ytjffmdfkodkidaa
open Go.RowKit
set_option linter.unusedVariables false
theorem RefL.block {w : World} {u : Value} {Ls : List (List Int)} (h : RefL w u Ls) (h0 : 0 < Ls.length) {k : Nat} (hk : u.ownBlock = some k) : ∃ cur, w.heap[k]? = some (.cells cur 22 (0, 0)) := by
  obtain ⟨a, c, rfl, h1, h2⟩ := h
  obtain ⟨b, o, cur, rfl, h3, _⟩ := h2 h0
  simp only [Value.ownBlock, Option.some.injEq] at hk
  subst hk
  exact ⟨cur, h3⟩
theorem RefL.chg2 {S : Nat → Prop} {w w' : World} {u : Value} {Ls : List (List Int)} (h : RefL w u Ls) (hc : Chg S w w') (hS : ∀ k cur, w.heap[k]? = some (.cells cur 5 (0, 0)) → ¬ S k) (hu : 0 < Ls.length → ∀ k, u.ownBlock = some k → ¬ S k) : RefL w' u Ls := by
  by_cases h0 : 0 < Ls.length
  · exact h.chg hc hS (hu h0)
  · obtain ⟨a, c, rfl, h1, h2⟩ := h
    exact ⟨a, c, rfl, h1, fun h => absurd h h0⟩
/-- Both networks. -/
structure Both (B : Nat) (w : World) (bm : Nat) (v u : Value) (L : List (Nat × List Int)) (sent : Int) : Prop where
  net : Net B w bm v L sent
  ref : RefL w u (L.map (·.2))
  apart : 0 < L.length → Apart v u
theorem both_after {B : Nat} {w2 w3 : World} {bm : Nat} {v v3 u1 : Value} {L L3 : List (Nat × List Int)} {sent sent3 : Int} {Ls1 : List (List Int)} (H2 : Net B w2 bm v L sent) (R2 : RefL w2 u1 Ls1) (ap : 0 < Ls1.length → Apart v u1)
    (N3 : Net B w3 bm v3 L3 sent3) (C : Chg (netS bm v) w2 w3) (F : Fresh w2 v v3) (hm : L3.map (·.2) = Ls1) : Both B w3 bm v3 u1 L3 sent3 := by
  refine ⟨N3, ?_, fun h0 k hk => ?_⟩
  · rw [hm]
    refine R2.chg2 C (fun k cur hk => ?_) (fun h0 k hk => ?_)
    · rintro (rfl | h)
      · rw [H2.me] at hk
        simp only [Option.some.injEq, Obj.cells.injEq] at hk
        exact absurd hk.2.1 (by decide)
      · exact own_ne H2.row hk (by decide) h
    · obtain ⟨cur, hcur⟩ := R2.block h0 hk
      rintro (rfl | h)
      · rw [H2.me] at hcur
        simp only [Option.some.injEq, Obj.cells.injEq] at hcur
        exact absurd hcur.2.1 (by decide)
      · exact ap h0 k hk h
  · have h1 : 0 < Ls1.length := by rw [← hm]; simpa using h0
    rcases F with F | F
    · rw [F]
      exact ap h1 k hk
    · intro h
      have := F k h
      obtain ⟨cur, hcur⟩ := R2.block h1 hk
      have := (Array.getElem?_eq_some_iff.1 hcur).1
      omega
theorem both_same {B : Nat} {w2 w3 : World} {bm : Nat} {v u1 : Value} {L L3 : List (Nat × List Int)} {sent : Int} (N3 : Net B w3 bm v L3 sent) (R3 : RefL w3 u1 (L3.map (·.2))) (ap : 0 < L3.length → Apart v u1) : Both B w3 bm v u1 L3 sent := ⟨N3, R3, ap⟩
/-- New blocks are apart. -/
theorem apart_new {B : Nat} {w : World} {bm : Nat} {v u1 : Value} {L : List (Nat × List Int)} {sent : Int} (H : Net B w bm v L sent) (h : ∀ k, u1.ownBlock = some k → w.heap.size ≤ k) : Apart v u1 := by
  intro k hk hv
  have := h k hk
  have := (H.row.lt k hv).2
  omega
/-- Boxes of the law's own. -/
def boxT (w : World) (k : Nat) : Prop := ∃ cs t f, w.heap[k]? = some (.cells cs t f) ∧ (t = 41 ∨ t = 43)
theorem Both.chg {S : Nat → Prop} {B : Nat} {w w' : World} {bm : Nat} {v u : Value} {L : List (Nat × List Int)} {sent : Int} (H : Both B w bm v u L sent) (hc : Chg S w w') (hS : ∀ k, S k → boxT w k) : Both B w' bm v u L sent := by
  have no : ∀ k cs t f, w.heap[k]? = some (.cells cs t f) → t ≠ 41 → t ≠ 43 → ¬ S k := by
    intro k cs t f hk h1 h2 h
    obtain ⟨cs', t', f', h3, h4⟩ := hS k h
    rw [hk] at h3
    simp only [Option.some.injEq, Obj.cells.injEq] at h3
    obtain ⟨_, rfl, _⟩ := h3
    rcases h4 with rfl | rfl
    · exact h1 rfl
    · exact h2 rfl
  refine ⟨H.net.chg hc (no _ _ _ _ H.net.me (by decide) (by decide)) (fun k hk h => ?_) (fun y hy => no _ _ _ _ (H.net.pk y hy).at_ (by decide) (by decide)), H.ref.chg2 hc (fun k cur hk => no _ _ _ _ hk (by decide) (by decide)) (fun h0 k hk => ?_), H.apart⟩
  · obtain ⟨cs, t, f, h1, h2⟩ := hS k h
    exact own_ne H.net.row h1 (by rcases h2 with rfl | rfl <;> decide) hk
  · obtain ⟨cur, hcur⟩ := H.ref.block h0 hk
    exact no _ _ _ _ hcur (by decide) (by decide)
/-- The step's three boxes. -/
structure SB (h : Nat) (wi : World) (u : Value) (s kind i at_ by_ : Int) (y : Value) : Prop where
  b0 : wi.heap[h]? = some (.cells #[u, .int .i64 s] 41 (0, 0))
  b1 : wi.heap[h + 1]? = some (.cells #[.int .i64 kind, .int .i64 i, .int .i64 at_, .int .u8 by_, y] 43 (0, 0))
  b2 : wi.heap[h + 2]? = some (.cells #[.slice none 0 0, .int .i64 0] 41 (0, 0))
theorem SB.start (w : World) (u : Value) (s kind i at_ by_ : Int) (y : Value) : SB w.heap.size (((w.alloc (.cells #[u, .int .i64 s] 41)).alloc (.cells #[.int .i64 kind, .int .i64 i, .int .i64 at_, .int .u8 by_, y] 43)).alloc (.cells #[.slice none 0 0, .int .i64 0] 41)) u s kind i at_ by_ y := by
  refine ⟨?_, ?_, ?_⟩
  · rw [heap_alloc_old _ _ (by simp; omega), heap_alloc_old _ _ (by simp)]
    exact heap_alloc_new w _
  · rw [heap_alloc_old _ _ (by simp)]
    have := heap_alloc_new (w.alloc (.cells #[u, .int .i64 s] 41)) (.cells #[.int .i64 kind, .int .i64 i, .int .i64 at_, .int .u8 by_, y] 43)
    simpa using this
  · have := heap_alloc_new ((w.alloc (.cells #[u, .int .i64 s] 41)).alloc (.cells #[.int .i64 kind, .int .i64 i, .int .i64 at_, .int .u8 by_, y] 43)) (.cells #[.slice none 0 0, .int .i64 0] 41)
    simpa using this
section
variable {h : Nat} {w wi wj : World} {u : Value} {s kind i at_ by_ : Int} {y : Value}
theorem SB.still (H : SB h wi u s kind i at_ by_ y) (hs : Still wi wj) : SB h wj u s kind i at_ by_ y := ⟨hs.at H.b0 (fun h => h), hs.at H.b1 (fun h => h), hs.at H.b2 (fun h => h)⟩
theorem SB.netop {B : Nat} {bm : Nat} {v : Value} {L : List (Nat × List Int)} {sent : Int} (H : SB h wi u s kind i at_ by_ y) (N : Net B wi bm v L sent) (hs : Chg (netS bm v) wi wj) : SB h wj u s kind i at_ by_ y := by
  have no : ∀ k cs t f, wi.heap[k]? = some (.cells cs t f) → t ≠ 50 → t ≠ 22 → ¬ netS bm v k := by
    intro k cs t f hk h1 h2
    rintro (rfl | hv)
    · rw [N.me] at hk
      simp only [Option.some.injEq, Obj.cells.injEq] at hk
      exact h1 hk.2.1.symm
    · exact own_ne N.row hk h2 hv
  exact ⟨hs.at H.b0 (no _ _ _ _ H.b0 (by decide) (by decide)), hs.at H.b1 (no _ _ _ _ H.b1 (by decide) (by decide)), hs.at H.b2 (no _ _ _ _ H.b2 (by decide) (by decide))⟩
theorem SB.c00 (H : SB h wi u s kind i at_ by_ y) : wi.cell? ⟨h, 0, none⟩ = some u := by simp [World.cell?, H.b0]
theorem SB.c01 (H : SB h wi u s kind i at_ by_ y) : wi.cell? ⟨h, 1, none⟩ = some (.int .i64 s) := by simp [World.cell?, H.b0]
theorem SB.c10 (H : SB h wi u s kind i at_ by_ y) : wi.cell? ⟨h + 1, 0, none⟩ = some (.int .i64 kind) := by simp [World.cell?, H.b1]
theorem SB.c11 (H : SB h wi u s kind i at_ by_ y) : wi.cell? ⟨h + 1, 1, none⟩ = some (.int .i64 i) := by simp [World.cell?, H.b1]
theorem SB.c12 (H : SB h wi u s kind i at_ by_ y) : wi.cell? ⟨h + 1, 2, none⟩ = some (.int .i64 at_) := by simp [World.cell?, H.b1]
theorem SB.c13 (H : SB h wi u s kind i at_ by_ y) : wi.cell? ⟨h + 1, 3, none⟩ = some (.int .u8 by_) := by simp [World.cell?, H.b1]
theorem SB.c14 (H : SB h wi u s kind i at_ by_ y) : wi.cell? ⟨h + 1, 4, none⟩ = some y := by simp [World.cell?, H.b1]
theorem SB.c20 (H : SB h wi u s kind i at_ by_ y) : wi.cell? ⟨h + 2, 0, none⟩ = some (.slice none 0 0) := by simp [World.cell?, H.b2]
theorem SB.c21 (H : SB h wi u s kind i at_ by_ y) : wi.cell? ⟨h + 2, 1, none⟩ = some (.int .i64 0) := by simp [World.cell?, H.b2]
theorem SB.f20 (H : SB h wi u s kind i at_ by_ y) (k : Nat) : wi.frozen? ⟨h + 2, k, none⟩ = false := by simp [World.frozen?, H.b2]
end
/-- A box of a network of the reference's. -/
def Box1 (k : Nat) (wi : World) (u : Value) (s : Int) : Prop := wi.heap[k]? = some (.cells #[u, .int .i64 s] 41 (0, 0))
section
variable {k : Nat} {w wi wj : World} {u : Value} {s : Int}
theorem Box1.new (w : World) (u : Value) (s : Int) : Box1 w.heap.size (w.alloc (.cells #[u, .int .i64 s] 41)) u s := heap_alloc_new w _
theorem Box1.still (H : Box1 k wi u s) (hs : Still wi wj) : Box1 k wj u s := hs.at H (fun h => h)
theorem Box1.netop {B : Nat} {bm : Nat} {v : Value} {L : List (Nat × List Int)} {sent : Int} (H : Box1 k wi u s) (N : Net B wi bm v L sent) (hs : Chg (netS bm v) wi wj) : Box1 k wj u s := by
  refine hs.at H ?_
  rintro (rfl | hv)
  · rw [Box1, N.me] at H
    simp only [Option.some.injEq, Obj.cells.injEq] at H
    exact absurd H.2.1 (by decide)
  · exact own_ne N.row H (by decide) hv
theorem Box1.c0 (H : Box1 k wi u s) : wi.cell? ⟨k, 0, none⟩ = some u := by simp [World.cell?, show wi.heap[k]? = _ from H]
theorem Box1.fr (H : Box1 k wi u s) (j : Nat) : wi.frozen? ⟨k, j, none⟩ = false := by simp [World.frozen?, show wi.heap[k]? = _ from H]
theorem Box1.c1 (H : Box1 k wi u s) : wi.cell? ⟨k, 1, none⟩ = some (.int .i64 s) := by simp [World.cell?, show wi.heap[k]? = _ from H]
end
/-- Below B all is as it was, and so are the boxes. -/
structure Low (B : Nat) (w w' : World) : Prop where
  below : Below B w w'
  box : ∀ k cs f, k < w.heap.size → w.heap[k]? = some (.cells cs 41 f) → w'.heap[k]? = some (.cells cs 41 f)
theorem Low.trans {B : Nat} {a b c : World} (h : Low B a b) (k : Low B b c) : Low B a c :=
  ⟨h.below.trans k.below, fun i cs f hi ho => k.box i cs f (Nat.lt_of_lt_of_le hi h.below.size) (h.box i cs f hi ho)⟩
theorem Chg.low {B : Nat} {w w' : World} (h : Chg (fun _ => False) w w') (hB : B ≤ w.heap.size) : Low B w w' :=
  ⟨h.below hB (fun k hk => hk.elim), fun k cs f hk ho => by rw [h.block k hk (fun h => h)]; exact ho⟩
theorem Net.low {B : Nat} {w w' : World} {bm : Nat} {v : Value} {L : List (Nat × List Int)} {sent : Int} (H : Net B w bm v L sent) (hc : Chg (netS bm v) w w') : Low B w w' := by
  refine ⟨H.below hc, fun k cs f hk ho => ?_⟩
  refine hc.at ho ?_
  rintro (rfl | hv)
  · rw [H.me] at ho
    simp only [Option.some.injEq, Obj.cells.injEq] at ho
    exact absurd ho.2.1 (by decide)
  · exact own_ne H.row ho (by decide) hv
theorem Low.box1 {B : Nat} {w w' : World} (h : Low B w w') {k : Nat} {u : Value} {s : Int} (hb : Box1 k w u s) : Box1 k w' u s := h.box k _ _ (Array.getElem?_eq_some_iff.1 hb).1 hb
/-- The results are stored. -/
theorem Both.stored {B : Nat} {w wi : World} {bm : Nat} {v u : Value} {L : List (Nat × List Int)} {sent : Int} {u0 : Value} {s0 kind i at_ by_ : Int} {y : Value} (H : Both B wi bm v u L sent) (S : SB w.heap.size wi u0 s0 kind i at_ by_ y) (hb : Low B w wi) (hB : B ≤ w.heap.size) (x0 x1 : Value) :
    Both B ((wi.setCell ⟨w.heap.size + 2, 0, none⟩ x0).setCell ⟨w.heap.size + 2, 1, none⟩ x1) bm v u L sent ∧ Low B w ((wi.setCell ⟨w.heap.size + 2, 0, none⟩ x0).setCell ⟨w.heap.size + 2, 1, none⟩ x1) := by
  have hC : Chg (fun k => k = w.heap.size + 2) wi ((wi.setCell ⟨w.heap.size + 2, 0, none⟩ x0).setCell ⟨w.heap.size + 2, 1, none⟩ x1) := (Chg.set wi _ 0 x0).trans (Chg.set _ _ 1 x1)
  refine ⟨H.chg hC (fun k hk => ?_), hb.below.trans (hC.below H.net.size (fun k hk => by omega)), fun k cs f hk ho => ?_⟩
  · subst hk
    exact ⟨_, _, _, S.b2, .inl rfl⟩
  · exact hC.at (hb.box k cs f hk ho) (by omega)
theorem slice_len {a : Option Addr} {n m c : Nat} (h : n = m) : Value.slice a n c = Value.slice a m c := by rw [h]
theorem Src.source {w : World} {a : Option Addr} {n c : Nat} {bs : List Int} (h : Src w (.slice a n c) bs) : 0 < n → ∃ ad, a = some ad ∧ ∀ j u, (bytesV bs)[j]? = some u → w.cell? (ad.add j) = some u :=
  fun h0 => (Reads.source h.reads h0).2
theorem map_eraseIdx {α β : Type} (f : α → β) (l : List α) (k : Nat) : (l.map f).eraseIdx k = (l.eraseIdx k).map f := by
  induction l generalizing k with
  | nil => simp
  | cons x l ih => cases k with
    | zero => simp
    | succ k => simp [ih]
theorem rdrop_ok (w : World) (a : Option Addr) (n c : Nat) (s : Int) (Ls : List (List Int)) (i : Nat) (h : RefL w (.slice a n c) Ls) (hi : i < n) (hn : n ≤ 512) :
    Calls Try.prog 27 #[.agg #[.slice a n c, .int .i64 s], .int .i64 i] w fun e w' => ∃ u', e = .returned (.tuple #[.agg #[u', .int .i64 s], .int .i64 0]) ∧ RefL w' u' (Ls.eraseIdx i) ∧ Still w w' ∧ ∀ k, u'.ownBlock = some k → w.heap.size ≤ k := by
  have hcap := h.cap
  have hlen := h.heads.1
  obtain ⟨b, o, y, rfl, _⟩ := h.at (List.getElem?_eq_getElem (show i < Ls.length by omega))
  by_cases hc : i + 1 < c
  · exact rdrop_some w b o n c s Ls i h hi hn hc hcap
  · obtain rfl : c = i + 1 := by omega
    obtain rfl : n = i + 1 := by omega
    exact rdrop_last w b o s Ls i h hn
/-- What a step answers. -/
def StepR (B : Nat) (w : World) (bm : Nat) (L : List (Nat × List Int)) (e : Ending) (w' : World) : Prop :=
  ∃ v' a' c' L' sent', e = .returned (.tuple #[.agg #[.slice a' L'.length c', .int .i64 sent'], .bool true]) ∧ Both B w' bm v' (.slice a' L'.length c') L' sent' ∧ L'.length ≤ L.length + 1 ∧ (∀ x ∈ L', x.2.length ≤ 300) ∧ Low B w w'
end Go.Proofs.Ytjffmdfkodkidaa

namespace Go.Proofs.Ytjffmdfkodkidaa
open Go.RowKit
set_option linter.unusedVariables false
section
variable {B : Nat} {w : World} {bm : Nat} {v : Value} {L : List (Nat × List Int)} {sent : Int} {a : Option Addr} {c : Nat}
set_option maxRecDepth 10000 in
set_option maxHeartbeats 2000000 in
theorem step_send (H : Both B w bm v (.slice a L.length c) L sent) (hl : ∀ x ∈ L, x.2.length ≤ 300) (hL : L.length ≤ 100) (i at_ by_ : Int) (ab : Option Addr) (cb : Nat) (bs : List Int) (hb : Src w (.slice ab bs.length cb) bs) (hbl : bs.length ≤ 300) :
    Calls Try.prog 19 #[.pointer (some ⟨bm, 0, none⟩), .agg #[.slice a L.length c, .int .i64 sent], .agg #[.int .i64 1, .int .i64 i, .int .i64 at_, .int .u8 by_, .slice ab bs.length cb]] w (StepR B w bm L) := by
  go_enter Try.func19, Try.ntmps19
  go_wp2_with (go_at_call 99; skip)
  have S1 := SB.start w (.slice a L.length c) sent 1 i at_ by_ (.slice ab bs.length cb)
  have st1 : Still w (((w.alloc (.cells #[.slice a L.length c, .int .i64 sent] 41)).alloc (.cells #[.int .i64 1, .int .i64 i, .int .i64 at_, .int .u8 by_, .slice ab bs.length cb] 43)).alloc (.cells #[.slice none 0 0, .int .i64 0] 41)) := ((Chg.alloc _ w _).trans (Chg.alloc _ _ _)).trans (Chg.alloc _ _ _)
  generalize ((w.alloc (.cells #[.slice a L.length c, .int .i64 sent] 41)).alloc (.cells #[.int .i64 1, .int .i64 i, .int .i64 at_, .int .u8 by_, .slice ab bs.length cb] 43)).alloc (.cells #[.slice none 0 0, .int .i64 0] 41) = W1 at *
  go_at_call 25
  refine (rsend_ok W1 a L.length c sent (L.map (·.2)) _ bs (H.ref.still st1) (hb.still st1) (by omega) (by omega)).mono ?_
  rintro e w2 ⟨u', rfl, R2, st2, low2⟩
  obtain ⟨a2, c2, rfl, _⟩ := id R2
  have hlen : (L.map (·.2) ++ [bs]).length = L.length + 1 := by simp
  rw [hlen] at R2 low2 ⊢
  have S2 := S1.still st2
  have st2' := st1.trans st2
  have N2 := H.net.still st2'
  have hb2 := hb.still st2'
  have ap2 : Apart v (.slice a2 (L.length + 1) c2) := apart_new H.net (fun k hk => Nat.le_trans st1.size (low2 k hk))
  clear S1 st2
  go_wp2_with (go_at_call 99; skip)
  have T3 := Box1.new w2 (.slice a2 (L.length + 1) c2) (wrap64 (sent + 1))
  have stA : Still w2 (w2.alloc (.cells #[.slice a2 (L.length + 1) c2, .int .i64 (wrap64 (sent + 1))] 41)) := Chg.alloc _ _ _
  generalize hk8 : w2.heap.size = k8 at *
  generalize w2.alloc (.cells #[.slice a2 (L.length + 1) c2, .int .i64 (wrap64 (sent + 1))] 41) = w3 at *
  have S3 := S2.still stA
  have N3 := N2.still stA
  have R3 := R2.still stA
  have st3 := st2'.trans stA
  have hb3 := hb2.still stA
  have hrd : 0 < bs.length → ∃ ad, ab = some ad ∧ ∀ j v, (bytesV bs)[j]? = some v → w3.drew.cell? (ad.add j) = some v := hb3.source
  have cc := S3.c14
  have cT0 := T3.c0
  have cT1 := T3.c1
  have hsend := send_play B w3.drew bm v L sent (N3.still (still_drew _)) (by omega) ab bs.length cb bs rfl (by omega) hrd
  have hfin : ∀ v4 p w4, Fresh w3.drew v v4 → Net B w4 bm v4 (L ++ [(p, bs)]) (wrap64 (sent + 1)) → Chg (netS bm v) w3.drew w4 → SB w.heap.size w4 (.slice a L.length c) sent 1 i at_ by_ (.slice ab bs.length cb) ∧ Box1 k8 w4 (.slice a2 (L.length + 1) c2) (wrap64 (sent + 1)) ∧ Both B w4 bm v4 (.slice a2 (L.length + 1) c2) (L ++ [(p, bs)]) (wrap64 (sent + 1)) ∧ Low B w w4 := by
    intro v4 p w4 F4 N4 C4
    have N3' := N3.still (still_drew w3)
    refine ⟨(S3.still (still_drew _)).netop N3' C4, (T3.still (still_drew _)).netop N3' C4, both_after N3' (R3.still (still_drew _)) (fun _ => ap2) N4 C4 F4 (by simp), ?_⟩
    exact ((st3.trans (still_drew _)).low H.net.size).trans (N3'.low C4)
  have HF : Hid _ := hfin
  have HB := H.net.size
  clear hfin hrd hb3 hb2 N2 N3 R2 R3 S2 S3 T3 stA st3 st2' H hb
  go_region_law (go_simp; go_at_call 9; refine hsend.mono ?_; rintro e w4 ⟨rfl, v4, p, hp, F4, N4, C4⟩; obtain ⟨S4, T4, B4, L4⟩ := HF.out v4 p w4 F4 N4 C4; have cU0 := T4.c0; have cU1 := T4.c1; have r0 := S4.c20; have r1 := S4.c21; have f0 := S4.f20 0; have f1 := S4.f20 1; clear F4 N4 C4)
  all_goals go_wp2
  all_goals (
    refine bodyPost_ret (v := .tuple #[.agg #[.slice a2 (L.length + 1) c2, .int .i64 (wrap64 (sent + 1))], .bool true]) (by rw [results_cell_tmp rfl]; go_simp) rfl ⟨v4, a2, c2, L ++ [(p, bs)], wrap64 (sent + 1), ?_, ?_, ?_, ?_, ?_⟩
    · simp
    · have := (B4.stored S4 L4 HB (.slice a2 (L.length + 1) c2) (.int .i64 (wrap64 (sent + 1)))).1
      simpa using this
    · simp
    · intro x hx
      rcases List.mem_append.1 hx with hx | hx
      · exact hl x hx
      · simp at hx; subst hx; exact hbl
    · exact (B4.stored S4 L4 HB _ _).2)
end
end Go.Proofs.Ytjffmdfkodkidaa

namespace Go.Proofs.Ytjffmdfkodkidaa
open Go.RowKit
set_option linter.unusedVariables false
section
variable {B : Nat} {w : World} {bm : Nat} {v : Value} {L : List (Nat × List Int)} {sent : Int} {a : Option Addr} {c : Nat}
set_option maxRecDepth 10000 in
set_option maxHeartbeats 2000000 in
theorem step_take (H : Both B w bm v (.slice a L.length c) L sent) (hl : ∀ x ∈ L, x.2.length ≤ 300) (hL : L.length ≤ 100) (at_ by_ : Int) (y : Value) (k : Nat) (hk : k < L.length) :
    Calls Try.prog 19 #[.pointer (some ⟨bm, 0, none⟩), .agg #[.slice a L.length c, .int .i64 sent], .agg #[.int .i64 2, .int .i64 (k : Int), .int .i64 at_, .int .u8 by_, y]] w (StepR B w bm L) := by
  obtain ⟨x, hx⟩ : ∃ x, L[k]? = some x := ⟨L[k], List.getElem?_eq_getElem hk⟩
  have hmx : (L.map (·.2))[k]? = some x.2 := by simp [hx]
  have hxl := hl x (List.mem_of_getElem? hx)
  go_enter Try.func19, Try.ntmps19
  go_wp2_with (go_at_call 99; skip)
  have S1 := SB.start w (.slice a L.length c) sent 2 (k : Int) at_ by_ y
  have st1 : Still w (((w.alloc (.cells #[.slice a L.length c, .int .i64 sent] 41)).alloc (.cells #[.int .i64 2, .int .i64 (k : Int), .int .i64 at_, .int .u8 by_, y] 43)).alloc (.cells #[.slice none 0 0, .int .i64 0] 41)) := ((Chg.alloc _ w _).trans (Chg.alloc _ _ _)).trans (Chg.alloc _ _ _)
  generalize ((w.alloc (.cells #[.slice a L.length c, .int .i64 sent] 41)).alloc (.cells #[.int .i64 2, .int .i64 (k : Int), .int .i64 at_, .int .u8 by_, y] 43)).alloc (.cells #[.slice none 0 0, .int .i64 0] 41) = W1 at *
  have ec1 := S1.c11
  go_at_call 26
  refine (rlook_ok W1 a L.length c sent (L.map (·.2)) k x.2 (H.ref.still st1) hmx).mono ?_
  rintro e w2 ⟨yv, rfl, Y2, st2⟩
  obtain ⟨ay, cy, rfl, _⟩ := id Y2
  have S2 := S1.still st2
  have st2' := st1.trans st2
  have ed0 := S2.c00
  have ed01 := S2.c01
  have ed1 := S2.c11
  clear S1 st2 ec1
  go_wp2_with (go_at_call 99; skip)
  go_at_call 27
  refine (rdrop_ok w2 a L.length c sent (L.map (·.2)) k (H.ref.still st2') hk (by omega)).mono ?_
  rintro e w3 ⟨u', rfl, R3, st3, low3⟩
  rw [show (L.map (·.2)).eraseIdx k = (L.eraseIdx k).map (·.2) from map_eraseIdx _ _ _] at R3
  obtain ⟨a2, c2, rfl, _⟩ := id R3
  rw [List.length_map] at R3 low3 ⊢
  have ap3 : 0 < (L.eraseIdx k).length → Apart v (.slice a2 (L.eraseIdx k).length c2) := fun _ => apart_new H.net (fun k hk => Nat.le_trans st2'.size (low3 k hk))
  obtain ⟨n2, hn2⟩ : ∃ n2, n2 = (L.eraseIdx k).length := ⟨_, rfl⟩
  rw [← hn2] at R3 low3 ⊢
  rw [← hn2] at ap3
  have HN : Hid (n2 = (L.eraseIdx k).length) := hn2
  have S3 := S2.still st3
  have Y3 := Y2.still st3
  have st3' := st2'.trans st3
  have ee1 := S3.c11
  have eg1 : (w3.alloc (.cells #[.slice a2 n2 c2, .int .i64 sent] 41)).cell? ⟨w.heap.size + 1, 1, none⟩ = some (.int .i64 k) := cell_alloc_lt ee1
  clear hn2 S2 Y2 st2' st3 ed0 ed01 ed1
  go_wp2_with (go_at_call 99; skip)
  have T4 := Box1.new w3 (.slice a2 n2 c2) sent
  have stA : Still w3 (w3.alloc (.cells #[.slice a2 n2 c2, .int .i64 sent] 41)) := Chg.alloc _ _ _
  generalize hk8 : w3.heap.size = k8 at *
  generalize w3.alloc (.cells #[.slice a2 n2 c2, .int .i64 sent] 41) = w4 at *
  have S4 := S3.still stA
  have R4 := R3.still stA
  have Y4 := Y3.still stA
  have st4 := st3'.trans stA
  have N4 := H.net.still st4
  go_at_call 13
  refine (take_play N4 k x hx (by omega) (by omega)).mono ?_
  rintro e w5 ⟨rfl, v5, N5, C5, hp5, F5⟩
  have S5 := S4.netop N4 C5
  have T5 := T4.netop N4 C5
  have B5 : Both B w5 bm v5 (.slice a2 n2 c2) (L.eraseIdx k) sent := both_after N4 R4 (fun h0 => ap3 (by rw [HN.out]; simpa using h0)) N5 C5 F5 rfl
  have Y5 : Bytes w5 (.slice ay x.2.length cy) x.2 := Y4.chg C5 (fun j cur hj => by
    rintro (rfl | h)
    · rw [N4.me] at hj
      simp only [Option.some.injEq, Obj.cells.injEq] at hj
      exact absurd hj.2.1 (by decide)
    · exact own_ne N4.row hj (by decide) h)
  have L5 : Low B w w5 := (st4.low H.net.size).trans (N4.low C5)
  have P5 : Row w5 w4.heap.size x.2 := Row.block hp5
  have HB := H.net.size
  generalize w4.heap.size = p5 at *
  clear S4 T4 R4 Y4 st4 N4 S3 R3 Y3 st3' H ee1 eg1 hp5 F5 C5 N5
  have x0 := T5.c0
  have x1 := T5.c1
  go_wp2_with (go_at_call 99; skip)
  have hsame := same_eq w5.drew _ _ x.2 (Y5.still (still_drew _)).reads ((P5.chg (still_drew _) (fun h => h)).reads x.2.length) (by omega)
  have hfin : ∀ w6, Still w5.drew w6 → SB w.heap.size w6 (.slice a L.length c) sent 2 (k : Int) at_ by_ y ∧ Box1 k8 w6 (.slice a2 n2 c2) sent ∧ Both B w6 bm v5 (.slice a2 n2 c2) (L.eraseIdx k) sent ∧ Low B w w6 := by
    intro w6 C6
    have sA := (still_drew w5).trans C6
    exact ⟨S5.still sA, T5.still sA, B5.chg sA (fun k hk => hk.elim), L5.trans (sA.low B5.net.size)⟩
  have HF : Hid _ := hfin
  clear hfin S5 T5 B5 Y5 L5 P5
  go_region_law (go_simp; go_at_call 14; refine hsame.mono ?_; rintro e w6 ⟨rfl, C6⟩; obtain ⟨S4, T4, B4, L4⟩ := HF.out w6 C6; have cU0 := T4.c0; have cU1 := T4.c1; have r0 := S4.c20; have r1 := S4.c21; have f0 := S4.f20 0; have f1 := S4.f20 1)
  all_goals go_wp2
  all_goals (
    have hn2 := HN.out
    refine bodyPost_ret (v := .tuple #[.agg #[.slice a2 n2 c2, .int .i64 (sent)], .bool true]) (by rw [results_cell_tmp rfl]; go_simp) rfl ⟨v5, a2, c2, L.eraseIdx k, (sent), ?_, ?_, ?_, ?_, ?_⟩
    · rw [hn2]
    · have := (B4.stored S4 L4 HB (.slice a2 n2 c2) (.int .i64 (sent))).1
      rw [← hn2]; exact this
    · have := List.length_eraseIdx_le L k; omega
    · exact fun x hx => hl x (List.mem_of_mem_eraseIdx hx)
    · exact (B4.stored S4 L4 HB _ _).2)
set_option maxRecDepth 10000 in
set_option maxHeartbeats 2000000 in
theorem step_take_bad (H : Both B w bm v (.slice a L.length c) L sent) (hl : ∀ x ∈ L, x.2.length ≤ 300) (hL : L.length ≤ 100) (i : Int) (at_ by_ : Int) (y : Value) (hi : i < 0 ∨ (L.length : Int) ≤ i) :
    Calls Try.prog 19 #[.pointer (some ⟨bm, 0, none⟩), .agg #[.slice a L.length c, .int .i64 sent], .agg #[.int .i64 2, .int .i64 i, .int .i64 at_, .int .u8 by_, y]] w (StepR B w bm L) := by
  go_enter Try.func19, Try.ntmps19
  go_wp2_with (go_at_call 99; skip)
  have S1 := SB.start w (.slice a L.length c) sent 2 i at_ by_ y
  have st1 : Still w (((w.alloc (.cells #[.slice a L.length c, .int .i64 sent] 41)).alloc (.cells #[.int .i64 2, .int .i64 i, .int .i64 at_, .int .u8 by_, y] 43)).alloc (.cells #[.slice none 0 0, .int .i64 0] 41)) := ((Chg.alloc _ w _).trans (Chg.alloc _ _ _)).trans (Chg.alloc _ _ _)
  generalize ((w.alloc (.cells #[.slice a L.length c, .int .i64 sent] 41)).alloc (.cells #[.int .i64 2, .int .i64 i, .int .i64 at_, .int .u8 by_, y] 43)).alloc (.cells #[.slice none 0 0, .int .i64 0] 41) = W1 at *
  have ec1 := S1.c11
  go_at_call 26
  refine (rlook_bad W1 a L.length c sent i hi).mono ?_
  rintro e w2 ⟨rfl, st2⟩
  have S2 := S1.still st2
  have st2' := st1.trans st2
  have ed0 := S2.c00
  have ed01 := S2.c01
  have ed1 := S2.c11
  clear S1 st2 ec1
  go_wp2_with (go_at_call 99; skip)
  go_at_call 27
  refine (rdrop_bad w2 a L.length c sent i hi).mono ?_
  rintro e w3 ⟨rfl, st3⟩
  have S3 := S2.still st3
  have st3' := st2'.trans st3
  have ee1 := S3.c11
  have eg1 : (w3.alloc (.cells #[.slice a L.length c, .int .i64 sent] 41)).cell? ⟨w.heap.size + 1, 1, none⟩ = some (.int .i64 i) := cell_alloc_lt ee1
  clear S2 st2' st3 ed0 ed01 ed1
  go_wp2_with (go_at_call 99; skip)
  have T4 := Box1.new w3 (.slice a L.length c) sent
  have stA : Still w3 (w3.alloc (.cells #[.slice a L.length c, .int .i64 sent] 41)) := Chg.alloc _ _ _
  generalize hk8 : w3.heap.size = k8 at *
  generalize w3.alloc (.cells #[.slice a L.length c, .int .i64 sent] 41) = w4 at *
  have S4 := S3.still stA
  have st4 := st3'.trans stA
  have N4 := H.net.still st4
  go_at_call 13
  refine (take_bad N4 i hi).mono ?_
  rintro e w5 ⟨rfl, rfl⟩
  have HB := H.net.size
  have x0 := T4.c0
  have x1 := T4.c1
  go_wp2_with (go_at_call 99; skip)
  have hsame := same_eq w5.drew (.slice none 0 0) (.slice none 0 0) [] ⟨none, 0, rfl, fun h => absurd h (by simp)⟩ ⟨none, 0, rfl, fun h => absurd h (by simp)⟩ (by simp)
  have hfin : ∀ w6, Still w5.drew w6 → SB w.heap.size w6 (.slice a L.length c) sent 2 i at_ by_ y ∧ Box1 k8 w6 (.slice a L.length c) sent ∧ Both B w6 bm v (.slice a L.length c) L sent ∧ Low B w w6 := by
    intro w6 C6
    have sA := (still_drew w5).trans C6
    exact ⟨S4.still sA, T4.still sA, H.chg (st4.trans sA) (fun k hk => hk.elim), (st4.trans sA).low H.net.size⟩
  have HF : Hid _ := hfin
  clear hfin S4 T4 H st4 N4 S3 st3' stA ee1 eg1
  go_region_law (go_simp; go_at_call 14; refine hsame.mono ?_; rintro e w6 ⟨rfl, C6⟩; obtain ⟨S4, T4, B4, L4⟩ := HF.out w6 C6; have cU0 := T4.c0; have cU1 := T4.c1; have r0 := S4.c20; have r1 := S4.c21; have f0 := S4.f20 0; have f1 := S4.f20 1)
  all_goals go_wp2
  all_goals (
    refine bodyPost_ret (v := .tuple #[.agg #[.slice a L.length c, .int .i64 (sent)], .bool true]) (by rw [results_cell_tmp rfl]; go_simp) rfl ⟨v, a, c, L, (sent), ?_, ?_, ?_, ?_, ?_⟩
    · rfl
    · exact (B4.stored S4 L4 HB (.slice a L.length c) (.int .i64 (sent))).1
    · omega
    · exact hl
    · exact (B4.stored S4 L4 HB _ _).2)
end
end Go.Proofs.Ytjffmdfkodkidaa

namespace Go.Proofs.Ytjffmdfkodkidaa
open Go.RowKit
set_option linter.unusedVariables false
section
variable {B : Nat} {w : World} {bm : Nat} {v : Value} {L : List (Nat × List Int)} {sent : Int} {a : Option Addr} {c : Nat}
set_option maxRecDepth 10000 in
set_option maxHeartbeats 2000000 in
theorem step_drop (H : Both B w bm v (.slice a L.length c) L sent) (hl : ∀ x ∈ L, x.2.length ≤ 300) (hL : L.length ≤ 100) (at_ : Int) (by_ : Int) (y : Value) (k : Nat) (hk : k < L.length) :
    Calls Try.prog 19 #[.pointer (some ⟨bm, 0, none⟩), .agg #[.slice a L.length c, .int .i64 sent], .agg #[.int .i64 3, .int .i64 (k : Int), .int .i64 at_, .int .u8 by_, y]] w (StepR B w bm L) := by
  obtain ⟨x, hx⟩ : ∃ x, L[k]? = some x := ⟨L[k], List.getElem?_eq_getElem hk⟩
  have hmx : (L.map (·.2))[k]? = some x.2 := by simp [hx]
  have hxl := hl x (List.mem_of_getElem? hx)
  go_enter Try.func19, Try.ntmps19
  go_wp2_with (go_at_call 99; skip)
  have S1 := SB.start w (.slice a L.length c) sent 3 (k : Int) at_ by_ y
  have st1 : Still w (((w.alloc (.cells #[.slice a L.length c, .int .i64 sent] 41)).alloc (.cells #[.int .i64 3, .int .i64 (k : Int), .int .i64 at_, .int .u8 by_, y] 43)).alloc (.cells #[.slice none 0 0, .int .i64 0] 41)) := ((Chg.alloc _ w _).trans (Chg.alloc _ _ _)).trans (Chg.alloc _ _ _)
  generalize ((w.alloc (.cells #[.slice a L.length c, .int .i64 sent] 41)).alloc (.cells #[.int .i64 3, .int .i64 (k : Int), .int .i64 at_, .int .u8 by_, y] 43)).alloc (.cells #[.slice none 0 0, .int .i64 0] 41) = W1 at *
  have ec0 := S1.c10
  have ec1 := S1.c11
  have ec2 := S1.c12
  have ec3 := S1.c13
  go_at_call 27
  refine (rdrop_ok W1 a L.length c sent (L.map (·.2)) k (H.ref.still st1) hk (by omega)).mono ?_
  rintro e w2 ⟨u', rfl, R2, st2, low2⟩
  rw [show (L.map (·.2)).eraseIdx k = (L.eraseIdx k).map (·.2) from (map_eraseIdx _ _ _)] at R2
  obtain ⟨a2, c2, rfl, _⟩ := id R2
  rw [List.length_map] at R2 low2 ⊢
  have ap2 : 0 < (L.eraseIdx k).length → Apart v (.slice a2 (L.eraseIdx k).length c2) := fun _ => apart_new H.net (fun k hk => Nat.le_trans st1.size (low2 k hk))
  obtain ⟨n2, hn2⟩ : ∃ n2, n2 = (L.eraseIdx k).length := ⟨_, rfl⟩
  rw [← hn2] at R2 low2 ⊢
  rw [← hn2] at ap2
  have HN : Hid (n2 = (L.eraseIdx k).length) := hn2
  clear hn2
  have S2 := S1.still st2
  have st2' := st1.trans st2
  have N2 := H.net.still st2'
  have ec20 := S2.c11
  have ec21 := S2.c12
  have ec22 := S2.c13
  clear S1 st2 ec0 ec1 ec2 ec3
  go_wp2_with (go_at_call 99; skip)
  have T3 := Box1.new w2 (.slice a2 n2 c2) (sent)
  have stA : Still w2 (w2.alloc (.cells #[.slice a2 n2 c2, .int .i64 (sent)] 41)) := Chg.alloc _ _ _
  generalize hk8 : w2.heap.size = k8 at *
  generalize w2.alloc (.cells #[.slice a2 n2 c2, .int .i64 (sent)] 41) = w3 at *
  have S3 := S2.still stA
  have N3 := N2.still stA
  have R3 := R2.still stA
  have st3 := st2'.trans stA
  have cc1 := S3.c11
  have cc2 := S3.c12
  have cc3 := S3.c13
  have cT0 := T3.c0
  have cT1 := T3.c1
  have N3d := N3.still (still_drew w3)
  have hnet := drop_play N3d k hk (by omega)
  have hfin : ∀ v4 w4 L4, L4.map (·.2) = (L.eraseIdx k).map (·.2) → Fresh w3.drew v v4 → Net B w4 bm v4 L4 (sent) → Chg (netS bm v) w3.drew w4 → SB w.heap.size w4 (.slice a L.length c) sent 3 (k : Int) at_ by_ y ∧ Box1 k8 w4 (.slice a2 n2 c2) (sent) ∧ Both B w4 bm v4 (.slice a2 n2 c2) L4 (sent) ∧ Low B w w4 := by
    intro v4 w4 L4 hm F4 N4 C4
    refine ⟨(S3.still (still_drew _)).netop N3d C4, (T3.still (still_drew _)).netop N3d C4, both_after N3d (R3.still (still_drew _)) (fun h0 => ap2 (by have := HN.out; simp at this h0; omega)) N4 C4 F4 hm, ?_⟩
    exact ((st3.trans (still_drew _)).low H.net.size).trans (N3d.low C4)
  have HF : Hid _ := hfin
  have HB := H.net.size
  clear hfin N2 N3 N3d R2 R3 S2 S3 T3 stA st3 st2' H
  go_region_law (go_simp; go_at_call 22; refine hnet.mono ?_; rintro e w4 ⟨rfl, v4, N4, C4, F4⟩; obtain ⟨S4, T4, B4, L4⟩ := HF.out v4 w4 _ rfl F4 N4 C4; have cU0 := T4.c0; have cU1 := T4.c1; have r0 := S4.c20; have r1 := S4.c21; have f0 := S4.f20 0; have f1 := S4.f20 1; have g1 := S4.c11; have g2 := S4.c12; have g3 := S4.c13)
  all_goals go_wp2
  all_goals (
    have hn2 := HN.out
    refine bodyPost_ret (v := .tuple #[.agg #[.slice a2 n2 c2, .int .i64 (sent)], .bool true]) (by rw [results_cell_tmp rfl]; go_simp) rfl ⟨v4, a2, c2, L.eraseIdx k, (sent), ?_, ?_, ?_, ?_, ?_⟩
    · rw [hn2]
    · have := (B4.stored S4 L4 HB (.slice a2 n2 c2) (.int .i64 (sent))).1
      rw [← hn2]; exact this
    · have := List.length_eraseIdx_le L k; omega
    · exact fun x hx => hl x (List.mem_of_mem_eraseIdx hx)
    · exact (B4.stored S4 L4 HB _ _).2)
set_option maxRecDepth 10000 in
set_option maxHeartbeats 2000000 in
theorem step_drop_bad (H : Both B w bm v (.slice a L.length c) L sent) (hl : ∀ x ∈ L, x.2.length ≤ 300) (hL : L.length ≤ 100) (i : Int) (at_ : Int) (by_ : Int) (y : Value) (hi : i < 0 ∨ (L.length : Int) ≤ i) :
    Calls Try.prog 19 #[.pointer (some ⟨bm, 0, none⟩), .agg #[.slice a L.length c, .int .i64 sent], .agg #[.int .i64 3, .int .i64 i, .int .i64 at_, .int .u8 by_, y]] w (StepR B w bm L) := by
  have hi' : i < 0 ∨ (L.length : Int) ≤ i := hi
  go_enter Try.func19, Try.ntmps19
  go_wp2_with (go_at_call 99; skip)
  have S1 := SB.start w (.slice a L.length c) sent 3 i at_ by_ y
  have st1 : Still w (((w.alloc (.cells #[.slice a L.length c, .int .i64 sent] 41)).alloc (.cells #[.int .i64 3, .int .i64 i, .int .i64 at_, .int .u8 by_, y] 43)).alloc (.cells #[.slice none 0 0, .int .i64 0] 41)) := ((Chg.alloc _ w _).trans (Chg.alloc _ _ _)).trans (Chg.alloc _ _ _)
  generalize ((w.alloc (.cells #[.slice a L.length c, .int .i64 sent] 41)).alloc (.cells #[.int .i64 3, .int .i64 i, .int .i64 at_, .int .u8 by_, y] 43)).alloc (.cells #[.slice none 0 0, .int .i64 0] 41) = W1 at *
  have ec0 := S1.c10
  have ec1 := S1.c11
  have ec2 := S1.c12
  have ec3 := S1.c13
  go_at_call 27
  refine (rdrop_bad W1 a L.length c sent i hi).mono ?_
  rintro e w2 ⟨rfl, st2⟩
  have R2 := (H.ref.still st1).still st2
  have ap2 : 0 < L.length → Apart v (.slice a L.length c) := H.apart
  obtain ⟨a2, ha2⟩ : ∃ a2, a2 = a := ⟨_, rfl⟩
  obtain ⟨c2, hc2⟩ : ∃ c2, c2 = c := ⟨_, rfl⟩
  obtain ⟨n2, hn2⟩ : ∃ n2, n2 = (L).length := ⟨_, rfl⟩
  skip
  skip
  have HN : Hid (n2 = (L).length) := hn2
  clear hn2
  have S2 := S1.still st2
  have st2' := st1.trans st2
  have N2 := H.net.still st2'
  have ec20 := S2.c11
  have ec21 := S2.c12
  have ec22 := S2.c13
  clear S1 st2 ec0 ec1 ec2 ec3
  go_wp2_with (go_at_call 99; skip)
  have T3 := Box1.new w2 (.slice a L.length c) (sent)
  have stA : Still w2 (w2.alloc (.cells #[.slice a L.length c, .int .i64 (sent)] 41)) := Chg.alloc _ _ _
  generalize hk8 : w2.heap.size = k8 at *
  generalize w2.alloc (.cells #[.slice a L.length c, .int .i64 (sent)] 41) = w3 at *
  have S3 := S2.still stA
  have N3 := N2.still stA
  have R3 := R2.still stA
  have st3 := st2'.trans stA
  have cc1 := S3.c11
  have cc2 := S3.c12
  have cc3 := S3.c13
  have cT0 := T3.c0
  have cT1 := T3.c1
  have N3d := N3.still (still_drew w3)
  have hnet := drop_bad N3d i hi
  have hfin : ∀ w4, Still w3.drew w4 → SB w.heap.size w4 (.slice a L.length c) sent 3 i at_ by_ y ∧ Box1 k8 w4 (.slice a L.length c) (sent) ∧ Both B w4 bm v (.slice a L.length c) L sent ∧ Low B w w4 := by
    intro w4 C4
    have sA := (still_drew w3).trans C4
    exact ⟨S3.still sA, T3.still sA, ⟨N3.still sA, R3.still sA, ap2⟩, (st3.trans sA).low H.net.size⟩
  have HF : Hid _ := hfin
  have HB := H.net.size
  clear hfin N2 N3 N3d R2 R3 S2 S3 T3 stA st3 st2' H
  go_region_law (go_simp; go_at_call 22; refine hnet.mono ?_; rintro e w4 ⟨rfl, hw4⟩; have C4 : Still w3.drew w4 := (by rw [hw4]; exact Chg.refl _ _); clear hw4; obtain ⟨S4, T4, B4, L4⟩ := HF.out w4 C4; have cU0 := T4.c0; have cU1 := T4.c1; have r0 := S4.c20; have r1 := S4.c21; have f0 := S4.f20 0; have f1 := S4.f20 1; have g1 := S4.c11; have g2 := S4.c12; have g3 := S4.c13)
  all_goals go_wp2
  all_goals (
    have hn2 := HN.out
    refine bodyPost_ret (v := .tuple #[.agg #[.slice a L.length c, .int .i64 (sent)], .bool true]) (by rw [results_cell_tmp rfl]; go_simp) rfl ⟨v, a, c, L, (sent), ?_, ?_, ?_, ?_, ?_⟩
    · rfl
    · have := (B4.stored S4 L4 HB (.slice a L.length c) (.int .i64 (sent))).1
      exact this
    · omega
    · exact hl
    · exact (B4.stored S4 L4 HB _ _).2)
end
end Go.Proofs.Ytjffmdfkodkidaa

namespace Go.Proofs.Ytjffmdfkodkidaa
open Go.RowKit
set_option linter.unusedVariables false
section
variable {B : Nat} {w : World} {bm : Nat} {v : Value} {L : List (Nat × List Int)} {sent : Int} {a : Option Addr} {c : Nat}
set_option maxRecDepth 10000 in
set_option maxHeartbeats 2000000 in
theorem step_double (H : Both B w bm v (.slice a L.length c) L sent) (hl : ∀ x ∈ L, x.2.length ≤ 300) (hL : L.length ≤ 100) (at_ : Int) (by_ : Int) (y : Value) (k : Nat) (hk : k < L.length) :
    Calls Try.prog 19 #[.pointer (some ⟨bm, 0, none⟩), .agg #[.slice a L.length c, .int .i64 sent], .agg #[.int .i64 4, .int .i64 (k : Int), .int .i64 at_, .int .u8 by_, y]] w (StepR B w bm L) := by
  obtain ⟨x, hx⟩ : ∃ x, L[k]? = some x := ⟨L[k], List.getElem?_eq_getElem hk⟩
  have hmx : (L.map (·.2))[k]? = some x.2 := by simp [hx]
  have hxl := hl x (List.mem_of_getElem? hx)
  go_enter Try.func19, Try.ntmps19
  go_wp2_with (go_at_call 99; skip)
  have S1 := SB.start w (.slice a L.length c) sent 4 (k : Int) at_ by_ y
  have st1 : Still w (((w.alloc (.cells #[.slice a L.length c, .int .i64 sent] 41)).alloc (.cells #[.int .i64 4, .int .i64 (k : Int), .int .i64 at_, .int .u8 by_, y] 43)).alloc (.cells #[.slice none 0 0, .int .i64 0] 41)) := ((Chg.alloc _ w _).trans (Chg.alloc _ _ _)).trans (Chg.alloc _ _ _)
  generalize ((w.alloc (.cells #[.slice a L.length c, .int .i64 sent] 41)).alloc (.cells #[.int .i64 4, .int .i64 (k : Int), .int .i64 at_, .int .u8 by_, y] 43)).alloc (.cells #[.slice none 0 0, .int .i64 0] 41) = W1 at *
  have ec0 := S1.c10
  have ec1 := S1.c11
  have ec2 := S1.c12
  have ec3 := S1.c13
  go_at_call 28
  refine (rdouble_ok W1 a L.length c sent (L.map (·.2)) k x.2 (H.ref.still st1) hmx (by omega) (by omega)).mono ?_
  rintro e w2 ⟨u', rfl, R2, st2, low2⟩
  rw [show L.map (·.2) ++ [x.2] = (L ++ [((0 : Nat), x.2)]).map (·.2) from (by simp)] at R2
  obtain ⟨a2, c2, rfl, _⟩ := id R2
  rw [List.length_map] at R2 low2 ⊢
  have ap2 : 0 < (L ++ [((0 : Nat), x.2)]).length → Apart v (.slice a2 (L ++ [((0 : Nat), x.2)]).length c2) := fun _ => apart_new H.net (fun k hk => Nat.le_trans st1.size (low2 k hk))
  obtain ⟨n2, hn2⟩ : ∃ n2, n2 = (L ++ [((0 : Nat), x.2)]).length := ⟨_, rfl⟩
  rw [← hn2] at R2 low2 ⊢
  rw [← hn2] at ap2
  have HN : Hid (n2 = (L ++ [((0 : Nat), x.2)]).length) := hn2
  clear hn2
  have S2 := S1.still st2
  have st2' := st1.trans st2
  have N2 := H.net.still st2'
  have ec20 := S2.c11
  have ec21 := S2.c12
  have ec22 := S2.c13
  clear S1 st2 ec0 ec1 ec2 ec3
  go_wp2_with (go_at_call 99; skip)
  have T3 := Box1.new w2 (.slice a2 n2 c2) (wrap64 (sent + 1))
  have stA : Still w2 (w2.alloc (.cells #[.slice a2 n2 c2, .int .i64 (wrap64 (sent + 1))] 41)) := Chg.alloc _ _ _
  generalize hk8 : w2.heap.size = k8 at *
  generalize w2.alloc (.cells #[.slice a2 n2 c2, .int .i64 (wrap64 (sent + 1))] 41) = w3 at *
  have S3 := S2.still stA
  have N3 := N2.still stA
  have R3 := R2.still stA
  have st3 := st2'.trans stA
  have cc1 := S3.c11
  have cc2 := S3.c12
  have cc3 := S3.c13
  have cT0 := T3.c0
  have cT1 := T3.c1
  have N3d := N3.still (still_drew w3)
  have hnet := double_play N3d k x hx (by omega) (by omega)
  have hfin : ∀ v4 w4 L4, L4.map (·.2) = (L ++ [((0 : Nat), x.2)]).map (·.2) → Fresh w3.drew v v4 → Net B w4 bm v4 L4 (wrap64 (sent + 1)) → Chg (netS bm v) w3.drew w4 → SB w.heap.size w4 (.slice a L.length c) sent 4 (k : Int) at_ by_ y ∧ Box1 k8 w4 (.slice a2 n2 c2) (wrap64 (sent + 1)) ∧ Both B w4 bm v4 (.slice a2 n2 c2) L4 (wrap64 (sent + 1)) ∧ Low B w w4 := by
    intro v4 w4 L4 hm F4 N4 C4
    refine ⟨(S3.still (still_drew _)).netop N3d C4, (T3.still (still_drew _)).netop N3d C4, both_after N3d (R3.still (still_drew _)) (fun h0 => ap2 (by have := HN.out; simp at this h0; omega)) N4 C4 F4 hm, ?_⟩
    exact ((st3.trans (still_drew _)).low H.net.size).trans (N3d.low C4)
  have HF : Hid _ := hfin
  have HB := H.net.size
  clear hfin N2 N3 N3d R2 R3 S2 S3 T3 stA st3 st2' H
  go_region_law (go_simp; go_at_call 10; refine hnet.mono ?_; rintro e w4 ⟨rfl, v4, p, hp, F4, N4, C4⟩; obtain ⟨S4, T4, B4, L4⟩ := HF.out v4 w4 _ (by simp) F4 N4 C4; have cU0 := T4.c0; have cU1 := T4.c1; have r0 := S4.c20; have r1 := S4.c21; have f0 := S4.f20 0; have f1 := S4.f20 1; have g1 := S4.c11; have g2 := S4.c12; have g3 := S4.c13)
  all_goals go_wp2
  all_goals (
    have hn2 := HN.out
    refine bodyPost_ret (v := .tuple #[.agg #[.slice a2 n2 c2, .int .i64 (wrap64 (sent + 1))], .bool true]) (by rw [results_cell_tmp rfl]; go_simp) rfl ⟨v4, a2, c2, L ++ [(p, x.2)], (wrap64 (sent + 1)), ?_, ?_, ?_, ?_, ?_⟩
    · simp [hn2]
    · have := (B4.stored S4 L4 HB (.slice a2 n2 c2) (.int .i64 (wrap64 (sent + 1)))).1
      have e : n2 = (L ++ [(p, x.2)]).length := (by simp [hn2]); rw [← e]; exact this
    · simp
    · intro z hz
      rcases List.mem_append.1 hz with hz | hz
      · exact hl z hz
      · simp at hz; subst hz; exact hxl
    · exact (B4.stored S4 L4 HB _ _).2)
set_option maxRecDepth 10000 in
set_option maxHeartbeats 2000000 in
theorem step_double_bad (H : Both B w bm v (.slice a L.length c) L sent) (hl : ∀ x ∈ L, x.2.length ≤ 300) (hL : L.length ≤ 100) (i : Int) (at_ : Int) (by_ : Int) (y : Value) (hi : i < 0 ∨ (L.length : Int) ≤ i) :
    Calls Try.prog 19 #[.pointer (some ⟨bm, 0, none⟩), .agg #[.slice a L.length c, .int .i64 sent], .agg #[.int .i64 4, .int .i64 i, .int .i64 at_, .int .u8 by_, y]] w (StepR B w bm L) := by
  have hi' : i < 0 ∨ (L.length : Int) ≤ i := hi
  go_enter Try.func19, Try.ntmps19
  go_wp2_with (go_at_call 99; skip)
  have S1 := SB.start w (.slice a L.length c) sent 4 i at_ by_ y
  have st1 : Still w (((w.alloc (.cells #[.slice a L.length c, .int .i64 sent] 41)).alloc (.cells #[.int .i64 4, .int .i64 i, .int .i64 at_, .int .u8 by_, y] 43)).alloc (.cells #[.slice none 0 0, .int .i64 0] 41)) := ((Chg.alloc _ w _).trans (Chg.alloc _ _ _)).trans (Chg.alloc _ _ _)
  generalize ((w.alloc (.cells #[.slice a L.length c, .int .i64 sent] 41)).alloc (.cells #[.int .i64 4, .int .i64 i, .int .i64 at_, .int .u8 by_, y] 43)).alloc (.cells #[.slice none 0 0, .int .i64 0] 41) = W1 at *
  have ec0 := S1.c10
  have ec1 := S1.c11
  have ec2 := S1.c12
  have ec3 := S1.c13
  go_at_call 28
  refine (rdouble_bad W1 a L.length c sent i hi).mono ?_
  rintro e w2 ⟨rfl, st2⟩
  have R2 := (H.ref.still st1).still st2
  have ap2 : 0 < L.length → Apart v (.slice a L.length c) := H.apart
  obtain ⟨a2, ha2⟩ : ∃ a2, a2 = a := ⟨_, rfl⟩
  obtain ⟨c2, hc2⟩ : ∃ c2, c2 = c := ⟨_, rfl⟩
  obtain ⟨n2, hn2⟩ : ∃ n2, n2 = (L).length := ⟨_, rfl⟩
  skip
  skip
  have HN : Hid (n2 = (L).length) := hn2
  clear hn2
  have S2 := S1.still st2
  have st2' := st1.trans st2
  have N2 := H.net.still st2'
  have ec20 := S2.c11
  have ec21 := S2.c12
  have ec22 := S2.c13
  clear S1 st2 ec0 ec1 ec2 ec3
  go_wp2_with (go_at_call 99; skip)
  have T3 := Box1.new w2 (.slice a L.length c) (sent)
  have stA : Still w2 (w2.alloc (.cells #[.slice a L.length c, .int .i64 (sent)] 41)) := Chg.alloc _ _ _
  generalize hk8 : w2.heap.size = k8 at *
  generalize w2.alloc (.cells #[.slice a L.length c, .int .i64 (sent)] 41) = w3 at *
  have S3 := S2.still stA
  have N3 := N2.still stA
  have R3 := R2.still stA
  have st3 := st2'.trans stA
  have cc1 := S3.c11
  have cc2 := S3.c12
  have cc3 := S3.c13
  have cT0 := T3.c0
  have cT1 := T3.c1
  have N3d := N3.still (still_drew w3)
  have hnet := double_bad N3d i hi
  have hfin : ∀ w4, Still w3.drew w4 → SB w.heap.size w4 (.slice a L.length c) sent 4 i at_ by_ y ∧ Box1 k8 w4 (.slice a L.length c) (sent) ∧ Both B w4 bm v (.slice a L.length c) L sent ∧ Low B w w4 := by
    intro w4 C4
    have sA := (still_drew w3).trans C4
    exact ⟨S3.still sA, T3.still sA, ⟨N3.still sA, R3.still sA, ap2⟩, (st3.trans sA).low H.net.size⟩
  have HF : Hid _ := hfin
  have HB := H.net.size
  clear hfin N2 N3 N3d R2 R3 S2 S3 T3 stA st3 st2' H
  go_region_law (go_simp; go_at_call 10; refine hnet.mono ?_; rintro e w4 ⟨rfl, hw4⟩; have C4 : Still w3.drew w4 := (by rw [hw4]; exact Chg.refl _ _); clear hw4; obtain ⟨S4, T4, B4, L4⟩ := HF.out w4 C4; have cU0 := T4.c0; have cU1 := T4.c1; have r0 := S4.c20; have r1 := S4.c21; have f0 := S4.f20 0; have f1 := S4.f20 1; have g1 := S4.c11; have g2 := S4.c12; have g3 := S4.c13)
  all_goals go_wp2
  all_goals (
    have hn2 := HN.out
    refine bodyPost_ret (v := .tuple #[.agg #[.slice a L.length c, .int .i64 (sent)], .bool true]) (by rw [results_cell_tmp rfl]; go_simp) rfl ⟨v, a, c, L, (sent), ?_, ?_, ?_, ?_, ?_⟩
    · rfl
    · have := (B4.stored S4 L4 HB (.slice a L.length c) (.int .i64 (sent))).1
      exact this
    · omega
    · exact hl
    · exact (B4.stored S4 L4 HB _ _).2)
end
end Go.Proofs.Ytjffmdfkodkidaa

