/- The seat's tables and runs, for the evaluator; no condition. -/
import Derived.Test.YtjffmdfkodkidaaSend
set_option linter.unusedSimpArgs false
set_option linter.unusedVariables false
set_option linter.unusedSectionVars false
set_option linter.deprecated false
namespace Go.Proofs.Ytjffmdfkodkidaa
open Go.RowKit
set_option linter.unusedVariables false

theorem addr_add (g i : Nat) : (⟨g, 0, none⟩ : Addr).add i = ⟨g, i, none⟩ := by unfold Addr.add; split <;> simp_all
theorem new_ok (w : World) : Calls Try.prog 8 #[] w fun e w' => e = .returned (.pointer (some ⟨w.heap.size, 0, none⟩)) ∧ w' = w.alloc (.cells #[.slice none 0 0, .int .i64 0] 50) := by
  go_enter Try.func8, Try.ntmps8
  go_wp2
  go_ret
  exact ⟨rfl, rfl⟩
theorem new_net (w : World) (B : Nat) (hB : B ≤ w.heap.size) : Net B (w.alloc (.cells #[.slice none 0 0, .int .i64 0] 50)) w.heap.size (.slice none 0 0) [] 0 :=
  ⟨hB, heap_alloc_new w _, World.ownsRow_nil _ _ _ _, fun x h => (by cases h), (by simp; have := hB; omega)⟩

theorem len_nil (w : World) : Calls Try.prog 15 #[.pointer none] w fun e w' => e = .returned (.int .i64 0) ∧ w' = w := by
  go_enter Try.func15, Try.ntmps15
  go_wp2
  go_ret
  exact ⟨rfl, rfl⟩
theorem sent_nil (w : World) : Calls Try.prog 16 #[.pointer none] w fun e w' => e = .returned (.int .i64 0) ∧ w' = w := by
  go_enter Try.func16, Try.ntmps16
  go_wp2
  go_ret
  exact ⟨rfl, rfl⟩
theorem copy_nil (w : World) : Calls Try.prog 18 #[.pointer none] w fun e w' => e = .returned (.pointer none) ∧ w' = w := by
  go_enter Try.func18, Try.ntmps18
  go_wp2
  go_ret
  exact ⟨rfl, rfl⟩
theorem clear_nil (w : World) : Calls Try.prog 21 #[.pointer none] w fun e w' => e = .returned (.tuple #[]) ∧ w' = w := by
  go_enter Try.func21, Try.ntmps21
  go_wp2
  go_end0
  exact ⟨rfl, rfl⟩
theorem may_nil (w : World) (i : Int) : Calls Try.prog 24 #[.pointer none, .int .i64 i] w fun e w' => e = .returned (.int .i64 17) ∧ w' = w := by
  go_enter Try.func24, Try.ntmps24
  go_wp2
  go_ret
  exact ⟨rfl, rfl⟩
theorem look_nil (w : World) (i : Int) : Calls Try.prog 11 #[.pointer none, .int .i64 i] w fun e w' => e = .returned (.tuple #[.slice none 0 0, .int .i64 17]) ∧ w' = w := by
  go_enter Try.func11, Try.ntmps11
  go_wp2_with (go_at_call 24; refine (may_nil w i).mono ?_; rintro e w' ⟨rfl, rfl⟩)
  go_ret2
  exact ⟨rfl, rfl⟩
theorem take_nil (w : World) (i : Int) : Calls Try.prog 13 #[.pointer none, .int .i64 i] w fun e w' => e = .returned (.tuple #[.slice none 0 0, .int .i64 17]) ∧ w' = w := by
  go_enter Try.func13, Try.ntmps13
  go_wp2_with (go_at_call 11; refine (look_nil w i).mono ?_; rintro e w' ⟨rfl, rfl⟩)
  go_ret2
  exact ⟨rfl, rfl⟩
theorem drop_nil (w : World) (i : Int) : Calls Try.prog 22 #[.pointer none, .int .i64 i] w fun e w' => e = .returned (.int .i64 17) ∧ w' = w := by
  go_enter Try.func22, Try.ntmps22
  go_wp2_with (go_at_call 24; refine (may_nil w i).mono ?_; rintro e w' ⟨rfl, rfl⟩)
  go_ret
  exact ⟨rfl, rfl⟩
theorem double_nil (w : World) (i : Int) : Calls Try.prog 10 #[.pointer none, .int .i64 i] w fun e w' => e = .returned (.int .i64 17) ∧ w' = w := by
  go_enter Try.func10, Try.ntmps10
  go_wp2_with (go_at_call 11; refine (look_nil w i).mono ?_; rintro e w' ⟨rfl, rfl⟩)
  go_ret
  exact ⟨rfl, rfl⟩
theorem spoil_nil (w : World) (i j k : Int) : Calls Try.prog 12 #[.pointer none, .int .i64 i, .int .i64 j, .int .u8 k] w fun e w' => e = .returned (.int .i64 17) ∧ w' = w := by
  go_enter Try.func12, Try.ntmps12
  go_wp2_with (go_at_call 11; refine (look_nil w i).mono ?_; rintro e w' ⟨rfl, rfl⟩)
  go_ret
  exact ⟨rfl, rfl⟩
theorem send_nil (w : World) (a : Option Addr) (n c : Nat) : Calls Try.prog 9 #[.pointer none, .slice a n c] w fun e w' => e = .returned (.int .i64 17) ∧ w' = w := by
  go_enter Try.func9, Try.ntmps9
  go_wp2
  go_ret
  exact ⟨rfl, rfl⟩
theorem send_long (w : World) (a : Option Addr) (n c bm : Nat) (hn : 1048592 < n) : Calls Try.prog 9 #[.pointer (some ⟨bm, 0, none⟩), .slice a n c] w fun e w' => e = .returned (.int .i64 3) ∧ w' = w := by
  have hn1 : (1048592 : Int) < (n : Int) := by omega
  go_enter Try.func9, Try.ntmps9
  go_wp2
  go_ret
  exact ⟨rfl, rfl⟩
section
variable {B : Nat} {w : World} {bm : Nat} {v : Value} {L : List (Nat × List Int)} {sent : Int}
theorem send_full (H : Net B w bm v L sent) (hL : 512 ≤ L.length) (a : Option Addr) (n c : Nat) (hn : n ≤ 1048592) : Calls Try.prog 9 #[.pointer (some ⟨bm, 0, none⟩), .slice a n c] w fun e w' => e = .returned (.int .i64 9) ∧ w' = w := by
  obtain ⟨ao, cap, rfl⟩ := own_form H.row
  have hc0 : w.cell? ⟨bm, 0, none⟩ = some (.slice ao L.length cap) := by simp [World.cell?, H.me]
  have hn1 : ¬ (1048592 : Int) < (n : Int) := by omega
  have hn2 : (512 : Int) ≤ (L.length : Int) := by omega
  go_enter Try.func9, Try.ntmps9
  go_wp2
  go_ret
  exact ⟨rfl, rfl⟩
theorem len_ok (H : Net B w bm v L sent) : Calls Try.prog 15 #[.pointer (some ⟨bm, 0, none⟩)] w fun e w' => e = .returned (.int .i64 L.length) ∧ w' = w := by
  obtain ⟨ao, cap, rfl⟩ := own_form H.row
  have hc0 : w.cell? ⟨bm, 0, none⟩ = some (.slice ao L.length cap) := by simp [World.cell?, H.me]
  go_enter Try.func15, Try.ntmps15
  go_wp2
  go_ret
  exact ⟨rfl, rfl⟩
theorem sent_ok (H : Net B w bm v L sent) : Calls Try.prog 16 #[.pointer (some ⟨bm, 0, none⟩)] w fun e w' => e = .returned (.int .i64 sent) ∧ w' = w := by
  have hc0 : w.cell? ⟨bm, 1, none⟩ = some (.int .i64 sent) := by simp [World.cell?, H.me]
  go_enter Try.func16, Try.ntmps16
  go_wp2
  go_ret
  exact ⟨rfl, rfl⟩
theorem may_ok (H : Net B w bm v L sent) (i : Nat) (hi : i < L.length) : Calls Try.prog 24 #[.pointer (some ⟨bm, 0, none⟩), .int .i64 i] w fun e w' => e = .returned (.int .i64 0) ∧ w' = w := by
  obtain ⟨ao, cap, rfl⟩ := own_form H.row
  have hc0 : w.cell? ⟨bm, 0, none⟩ = some (.slice ao L.length cap) := by simp [World.cell?, H.me]
  have hn1 : ¬ ((i : Int) < 0) := by omega
  have hn2 : ¬ ((L.length : Int) ≤ (i : Int)) := by omega
  go_enter Try.func24, Try.ntmps24
  go_wp2
  go_ret
  exact ⟨rfl, rfl⟩
theorem may_bad (H : Net B w bm v L sent) (i : Int) (hi : i < 0 ∨ L.length ≤ i) : Calls Try.prog 24 #[.pointer (some ⟨bm, 0, none⟩), .int .i64 i] w fun e w' => e = .returned (.int .i64 4) ∧ w' = w := by
  obtain ⟨ao, cap, rfl⟩ := own_form H.row
  have hc0 : w.cell? ⟨bm, 0, none⟩ = some (.slice ao L.length cap) := by simp [World.cell?, H.me]
  by_cases h0 : i < 0
  · go_enter Try.func24, Try.ntmps24
    go_wp2
    go_ret
    exact ⟨rfl, rfl⟩
  · have hn2 : ((L.length : Int) ≤ i) := by omega
    go_enter Try.func24, Try.ntmps24
    go_wp2
    go_ret
    exact ⟨rfl, rfl⟩
theorem at_ok (H : Net B w bm v L sent) {i : Nat} {x : Nat × List Int} (hx : L[i]? = some x) : ∃ g cap, v = .slice (some ⟨g, 0, none⟩) L.length cap ∧ w.cell? ⟨g, i, none⟩ = some (hdr x.1 x.2.length) ∧ w.frozen? ⟨g, i, none⟩ = false := by
  have hi : i < L.length := (List.getElem?_eq_some_iff.1 hx).1
  rcases H.row.2 with ⟨rfl, h0⟩ | ⟨g, cap, cur, rfl, h1, h2, h3, h4, h5, h6⟩
  · omega
  · refine ⟨g, cap, rfl, ?_, by simp [World.frozen?, h2]⟩
    have := World.ownsRow.cells H.row (g := g) rfl i (hdr x.1 x.2.length) (by simp [hx])
    have e : (⟨g, 0, none⟩ : Addr).add i = ⟨g, i, none⟩ := addr_add g i
    rw [← e]
    exact this
theorem look_ok (H : Net B w bm v L sent) (i : Nat) (x : Nat × List Int) (hx : L[i]? = some x) (hl : x.2.length ≤ 281474976710656) : Calls Try.prog 11 #[.pointer (some ⟨bm, 0, none⟩), .int .i64 i] w fun e w' =>
    e = .returned (.tuple #[hdr w.heap.size x.2.length, .int .i64 0]) ∧ w' = w.alloc (.cells (bytesV x.2).toArray 5) := by
  have hi : i < L.length := (List.getElem?_eq_some_iff.1 hx).1
  have hm := may_ok H i hi
  obtain ⟨g, cap, rfl, hc1, _⟩ := at_ok H hx
  have hc0 : w.cell? ⟨bm, 0, none⟩ = some (.slice (some ⟨g, 0, none⟩) L.length cap) := by simp [World.cell?, H.me]
  have hpk := (H.pk x (List.mem_of_getElem? hx)).at_
  have ho := own_walk (some ⟨x.1, 0, none⟩) x.2.length x.2.length (bytesV x.2) w (by simp) hl (one_bytes _) (fun _ => ⟨_, rfl, fun j u hj => by
    rw [addr_add]
    simpa [World.cell?, hpk] using hj⟩)
  have hn1 : (i : Int) < (L.length : Int) := by omega
  have hn0 : ¬ ((i : Int) < 0) := by omega
  clear hx hpk
  go_enter Try.func11, Try.ntmps11
  go_wp2_with (first | (go_at_call 24; refine hm.mono ?_; rintro e w' ⟨rfl, rfl⟩) | (go_at_call 23; refine ho.mono ?_; rintro e w' ⟨rfl, rfl⟩))
  go_ret2
  exact ⟨rfl, rfl⟩
theorem look_bad (H : Net B w bm v L sent) (i : Int) (hi : i < 0 ∨ L.length ≤ i) : Calls Try.prog 11 #[.pointer (some ⟨bm, 0, none⟩), .int .i64 i] w fun e w' => e = .returned (.tuple #[.slice none 0 0, .int .i64 4]) ∧ w' = w := by
  have hm := may_bad H i hi
  clear hi
  go_enter Try.func11, Try.ntmps11
  go_wp2_with (go_at_call 24; refine hm.mono ?_; rintro e w' ⟨rfl, rfl⟩)
  go_ret2
  exact ⟨rfl, rfl⟩
end
end Go.Proofs.Ytjffmdfkodkidaa
