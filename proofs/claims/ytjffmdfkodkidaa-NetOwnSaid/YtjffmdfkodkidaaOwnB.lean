/- The seat's tables and runs, for the evaluator; no condition. -/
import Derived.Test.YtjffmdfkodkidaaOps
set_option linter.unusedSimpArgs false
set_option linter.unusedVariables false
set_option linter.unusedSectionVars false
set_option linter.deprecated false
namespace Go.Proofs.Ytjffmdfkodkidaa
open Go.RowKit
set_option linter.unusedVariables false
set_option maxHeartbeats 4000000 in
theorem netOwn_good (w : World) (a : Option Addr) (n c at_ : Nat) (by_ : Int) (bs : List Int) (hA : Reads w (.slice a n c) bs) (h0 : 0 < n) (h3 : n ≤ 300) (hat : at_ < n) (hby : by_ ≠ 0) :
    Calls Try.prog 3 #[.slice a n c, .int .i64 at_, .int .u8 by_] w fun e w' => e = .returned (.bool true) ∧ Below w.heap.size w w' := by
  obtain ⟨hbn, ad, rfl, hsrc⟩ := hA.source h0
  subst hbn
  have hn1 : ((bs.length : Int) == 0) = false := by have : (bs.length : Int) ≠ 0 := by omega
                                                    simpa using this
  have hn2 : ¬ ((300 : Int) < (bs.length : Int)) := by omega
  have hn3 : decide ((at_ : Int) < 0) = false := by simp
  have hn4 : ¬ bs.length ≤ at_ := by omega
  have hn5 : (by_ == 0) = false := by simpa using hby
  have hz : Try.t5.zero = some (.int .u8 0) := by kernel_rfl
  have hi5 : Try.prog.info? 5 = some Try.t5 := by kernel_rfl
  have hbs : bs ≠ [] := fun e => by simp [e] at h0
  have hown0 : ((w.alloc (.cells #[.slice none 0 0, .int .i64 0] 50)).alloc (.cells #[] 5)).ownsRow w.heap.size 5 1 (.slice (some ⟨w.heap.size + 1, 0, none⟩) 0 0) 0 [] := by
    have := World.ownsRow_made (w.alloc (.cells #[.slice none 0 0, .int .i64 0] 50)) (e := 5) (size := 1) (base := w.heap.size) #[] 0 (by simp) (by simp [maxLen]) rfl
    simpa using this
  have hread : ∀ j u, (bytesV bs)[j]? = some u → ((w.alloc (.cells #[.slice none 0 0, .int .i64 0] 50)).alloc (.cells #[] 5)).cell? (ad.add j) = some u := fun j u hj => cell_alloc_lt (cell_alloc_lt (hsrc j u hj))
  have hst := fun (v8 : Value) (w3 : World) => own_start (w := w) (w3 := w3) (v8 := v8) (bs := bs) h0
  clear hsrc
  go_enter Try.func3, Try.ntmps3
  go_wp2_with (first | (go_at_call 8; refine (new_ok _).mono ?_; rintro e w' ⟨rfl, rfl⟩) | (at_builtin; refine wpList_append_own _ rfl (.tmp 44) (.tmp 45) 22 rfl w.heap.size 5 Try.t5 (.int .u8 0) 1 1 Try.underlying22 hi5 hz size5 bytes5 rfl (by decide) (.slice (some ⟨w.heap.size + 1, 0, none⟩) 0 0) 0 [] (by simp [Act.eval]) hown0 ad bs.length c (bytesV bs) (by simp [Act.eval]) (by simp) hread (one_bytes bs) (by unfold maxLen; omega) (by omega) (by simp; omega) ?_; intro v8 w3 hown hgrow _; obtain ⟨g, cap, rfl, H3, R3, b3, hgB0⟩ := hst v8 w3 hown hgrow; clear hown hgrow hst hread hown0))
  go_at_call 9
  refine (send_new w.heap.size w3 w.heap.size (.slice none 0 0) [] 0 H3 (by decide) (some ⟨g, 0, none⟩) bs.length cap bs rfl (by omega) (fun _ => ⟨_, rfl, R3.source⟩)).mono ?_
  rintro e w4 ⟨rfl, v4, p1, hp1, H4, C4⟩
  have H4 : Net w.heap.size w4 w.heap.size v4 [(p1, bs)] (wrap64 (0 + 1)) := H4
  have R4 := R3.chg C4 (R3.free H3)
  have b4 := b3.trans (H3.below C4)
  have hg1 : g ≠ p1 := fun e => by have := R3.lt; omega
  have hgB : w.heap.size ≤ g := hgB0
  clear H3 C4 R3 b3
  go_wp2_with (go_at_call 99; skip)
  go_at_call 10
  refine (double_ok H4 0 (p1, bs) rfl (by simp only; omega) (by simp)).mono ?_
  rintro e w5 ⟨rfl, v5, p2, hp2, H5, C5⟩
  have H5 : Net w.heap.size w5 w.heap.size v5 [(p1, bs), (p2, bs)] (wrap64 (wrap64 (0 + 1) + 1)) := H5
  have R5 := R4.chg C5 (R4.free H4)
  have b5 := b4.trans (H4.below C5)
  have hg2 : g ≠ p2 := fun e => by have := R4.lt; omega
  clear H4 C5 R4 b4 hp2 hp1
  go_wp2_with (go_at_call 99; skip)
  go_at_call 11
  refine (look_st H5 0 (p1, bs) rfl (by simp only; omega)).mono ?_
  rintro e w6 ⟨px, rfl, hpx, X6, H6, C6⟩
  have R6 := R5.chg C6 (fun h => h)
  have b6 : Below w.heap.size w w6 := b5.trans (C6.below H5.size (fun k h => h.elim))
  have hgx : px ≠ g := fun e => by have := R5.lt; omega
  clear H5 C6 R5 b5
  have hat' : (at_ : Int) < (bs.length : Int) := by omega
  have hc6 := R6.cell hat
  have hf6 := R6.thaw at_
  have H7 : Net w.heap.size (w6.setCell ⟨g, at_, none⟩ (.int .u8 (bits .xor .u8 (bs.getD at_ 0) by_))) w.heap.size v5 [(p1, bs), (p2, bs)] (wrap64 (wrap64 (0 + 1) + 1)) :=
    H6.setRow R6 (by intro y hy; simp at hy; rcases hy with rfl | rfl <;> simp <;> first | exact Ne.symm hg1 | exact Ne.symm hg2) at_ _
  have R7 := R6.set hat by_
  have X7 : Row (w6.setCell ⟨g, at_, none⟩ (.int .u8 (bits .xor .u8 (bs.getD at_ 0) by_))) px bs := X6.chg (Chg.set w6 g at_ _) hgx
  have b7 : Below w.heap.size w (w6.setCell ⟨g, at_, none⟩ (.int .u8 (bits .xor .u8 (bs.getD at_ 0) by_))) := b6.trans ((Chg.set w6 g at_ _).below H6.size (fun k hk => by subst hk; exact hgB))
  obtain ⟨xv, hxv⟩ : ∃ xv, xv = bs.getD at_ 0 := ⟨_, rfl⟩
  rw [← hxv] at hc6 H7 R7 X7 b7
  clear hxv H6 X6 b6 R6
  go_wp2_with (go_at_call 99; skip)
  generalize w6.setCell ⟨g, at_, none⟩ (.int .u8 (bits .xor .u8 xv by_)) = w7 at *
  clear hc6 hf6
  go_at_call 12
  refine (spoil_ok H7 1 (p2, bs) rfl (by simp only; omega) at_ hat by_ hby (by simp)).mono ?_
  rintro e w8 ⟨rfl, H8, C8⟩
  obtain ⟨q, hq⟩ : ∃ q, q = w7.heap.size := ⟨_, rfl⟩
  have H8 : Net w.heap.size w8 w.heap.size v5 [(p1, bs), (q, flip bs at_ by_)] (wrap64 (wrap64 (0 + 1) + 1)) := by rw [hq]; exact H8
  have R8 := R7.chg C8 (R7.free H7)
  have X8 := X7.chg C8 (X7.free H7)
  have b8 := b7.trans (H7.below C8)
  clear hq H7 C8 R7 X7 b7 hg1 hg2
  go_wp2_with (go_at_call 99; skip)
  go_at_call 11
  refine (look_st H8 0 (p1, bs) rfl (by simp only; omega)).mono ?_
  rintro e w9 ⟨py, rfl, hpy, Y9, H9, C9⟩
  have R9 := R8.chg C9 (fun h => h)
  have X9 := X8.chg C9 (fun h => h)
  have b9 : Below w.heap.size w w9 := b8.trans (C9.below H8.size (fun k h => h.elim))
  have hyg : py ≠ g := fun e => by have := R8.lt; omega
  have hyx : py ≠ px := fun e => by have := X8.lt; omega
  have hy1 : p1 ≠ py := fun e => by have := (Array.getElem?_eq_some_iff.1 (H8.pk (p1, bs) (by simp)).at_).1; simp only at this; omega
  have hyq : q ≠ py := fun e => by have := (Array.getElem?_eq_some_iff.1 (H8.pk (q, flip bs at_ by_) (by simp)).at_).1; simp only at this; omega
  have hyB : w.heap.size ≤ py := Nat.le_trans H8.size hpy
  clear H8 C9 R8 X8 b8 hpy
  have hc9 := Y9.cell hat
  have hf9 := Y9.thaw at_
  have H10 : Net w.heap.size (w9.setCell ⟨py, at_, none⟩ (.int .u8 (bits .xor .u8 (bs.getD at_ 0) by_))) w.heap.size v5 [(p1, bs), (q, flip bs at_ by_)] (wrap64 (wrap64 (0 + 1) + 1)) :=
    H9.setRow Y9 (by intro y hy; simp at hy; rcases hy with rfl | rfl <;> simp <;> first | exact hy1 | exact hyq) at_ _
  have R10 : Row (w9.setCell ⟨py, at_, none⟩ (.int .u8 (bits .xor .u8 (bs.getD at_ 0) by_))) g (flip bs at_ by_) := R9.chg (Chg.set w9 py at_ _) (Ne.symm hyg)
  have X10 : Row (w9.setCell ⟨py, at_, none⟩ (.int .u8 (bits .xor .u8 (bs.getD at_ 0) by_))) px bs := X9.chg (Chg.set w9 py at_ _) (Ne.symm hyx)
  have b10 : Below w.heap.size w (w9.setCell ⟨py, at_, none⟩ (.int .u8 (bits .xor .u8 (bs.getD at_ 0) by_))) := b9.trans ((Chg.set w9 py at_ _).below H9.size (fun k hk => by subst hk; exact hyB))
  obtain ⟨yv, hyv⟩ : ∃ yv, yv = bs.getD at_ 0 := ⟨_, rfl⟩
  rw [← hyv] at hc9 H10 R10 X10 b10
  clear hyv H9 X9 b9 R9 Y9
  go_wp2_with (go_at_call 99; skip)
  generalize w9.setCell ⟨py, at_, none⟩ (.int .u8 (bits .xor .u8 yv by_)) = w10 at *
  clear hc9 hf9
  go_at_call 13
  refine (take_st H10 0 (p1, bs) rfl (by simp only; omega) (by simp)).mono ?_
  rintro e w11 ⟨pz, v11, rfl, Z11, H11, C11⟩
  have H11 : Net w.heap.size w11 w.heap.size v11 [(q, flip bs at_ by_)] (wrap64 (wrap64 (0 + 1) + 1)) := H11
  have R11 := R10.chg C11 (R10.free H10)
  have X11 := X10.chg C11 (X10.free H10)
  have b11 := b10.trans (H10.below C11)
  clear H10 C11 R10 X10 b10
  go_wp2_with (go_at_call 99; skip)
  go_at_call 13
  refine (take_st H11 0 (q, flip bs at_ by_) rfl (by simp only [length_flip]; omega) (by simp)).mono ?_
  rintro e w12 ⟨pu, v12, rfl, U12, H12, C12⟩
  have H12 : Net w.heap.size w12 w.heap.size v12 [] (wrap64 (wrap64 (0 + 1) + 1)) := H12
  have R12 := R11.chg C12 (R11.free H11)
  have X12 := X11.chg C12 (X11.free H11)
  have Z12 := Z11.chg C12 (Z11.free H11)
  have b12 := b11.trans (H11.below C12)
  have A12 := hA.below b12 (Nat.le_refl _)
  clear H11 C12 R11 X11 Z11 b11
  go_wp2_with (go_at_call 99; skip)
  go_at_call 14
  refine (same_eq w12 _ _ bs (X12.reads bs.length) A12 (by omega)).mono ?_
  rintro e w13 ⟨rfl, C13⟩
  have H13 : Net w.heap.size w13 w.heap.size v12 [] (wrap64 (wrap64 (0 + 1) + 1)) := H12.chg C13 (fun h => h) (fun _ _ h => h) (fun _ _ h => h)
  have R13 := R12.chg C13 (fun h => h)
  have Z13 := Z12.chg C13 (fun h => h)
  have U13 := U12.chg C13 (fun h => h)
  have b13 : Below w.heap.size w w13 := b12.trans (C13.below H12.size (fun k h => h.elim))
  have A13 := hA.below b13 (Nat.le_refl _)
  clear C13 H12 R12 Z12 U12 b12 A12 X12
  go_wp2_with (go_at_call 99; skip)
  go_at_call 14
  refine (same_eq w13 _ _ bs (Z13.reads bs.length) A13 (by omega)).mono ?_
  rintro e w14 ⟨rfl, C14⟩
  have H14 : Net w.heap.size w14 w.heap.size v12 [] (wrap64 (wrap64 (0 + 1) + 1)) := H13.chg C14 (fun h => h) (fun _ _ h => h) (fun _ _ h => h)
  have R14 := R13.chg C14 (fun h => h)
  have U14 := U13.chg C14 (fun h => h)
  have b14 : Below w.heap.size w w14 := b13.trans (C14.below H13.size (fun k h => h.elim))
  clear C14 H13 R13 Z13 U13 b13 A13
  have hU : Reads w14 (hdr pu (flip bs at_ by_).length) (flip bs at_ by_) := U14.reads _
  have hR : Reads w14 (.slice (some ⟨g, 0, none⟩) bs.length cap) (flip bs at_ by_) := by
    have := R14.reads cap
    rwa [length_flip bs at_ by_] at this
  go_wp2_with (go_at_call 99; skip)
  go_at_call 14
  refine (same_eq w14 _ _ (flip bs at_ by_) hU hR (by rw [length_flip]; omega)).mono ?_
  rintro e w15 ⟨rfl, C15⟩
  have H15 : Net w.heap.size w15 w.heap.size v12 [] (wrap64 (wrap64 (0 + 1) + 1)) := H14.chg C15 (fun h => h) (fun _ _ h => h) (fun _ _ h => h)
  have b15 : Below w.heap.size w w15 := b14.trans (C15.below H14.size (fun k h => h.elim))
  clear C15 H14 R14 U14 b14 hU hR
  go_wp2_with (go_at_call 99; skip)
  go_at_call 15
  refine (len_ok H15).mono ?_
  rintro e w16 ⟨rfl, rfl⟩
  clear H15
  go_wp2_with (go_at_call 99; skip)
  go_at_call 7
  refine (Try.awake _).mono ?_
  rintro e w17 ⟨rfl, b17⟩
  have b18 : Below w.heap.size w w17 := b15.trans (b17.mono b15.size)
  clear b17 b15
  go_wp2
  go_ret
  exact ⟨rfl, b18⟩
theorem netOwn_bad (w : World) (a : Option Addr) (n c : Nat) (at_ by_ : Int) (h : n = 0 ∨ 300 < n ∨ at_ < 0 ∨ (n : Int) ≤ at_ ∨ by_ = 0) :
    Calls Try.prog 3 #[.slice a n c, .int .i64 at_, .int .u8 by_] w fun e w' => e = .returned (.bool true) ∧ Below w.heap.size w w' := by
  rcases h with h | h | h | h | h
  · subst h
    go_enter Try.func3, Try.ntmps3
    go_wp2_with (go_at_call 7; refine (Try.awake _).mono ?_; rintro e w' ⟨rfl, hb⟩)
    all_goals (go_ret; exact ⟨rfl, hb⟩)
  · have h' : (300 : Int) < (n : Int) := by omega
    go_enter Try.func3, Try.ntmps3
    go_wp2_with (go_at_call 7; refine (Try.awake _).mono ?_; rintro e w' ⟨rfl, hb⟩)
    all_goals (go_ret; exact ⟨rfl, hb⟩)
  · go_enter Try.func3, Try.ntmps3
    go_wp2_with (go_at_call 7; refine (Try.awake _).mono ?_; rintro e w' ⟨rfl, hb⟩)
    all_goals (go_ret; exact ⟨rfl, hb⟩)
  · go_enter Try.func3, Try.ntmps3
    go_wp2_with (go_at_call 7; refine (Try.awake _).mono ?_; rintro e w' ⟨rfl, hb⟩)
    all_goals (go_ret; exact ⟨rfl, hb⟩)
  · subst h
    go_enter Try.func3, Try.ntmps3
    go_wp2_with (go_at_call 7; refine (Try.awake _).mono ?_; rintro e w' ⟨rfl, hb⟩)
    all_goals (go_ret; exact ⟨rfl, hb⟩)
theorem netOwn_walk (w : World) (a : Option Addr) (n c : Nat) (at_ by_ : Int) (bs : List Int) (hA : Reads w (.slice a n c) bs) :
    Calls Try.prog 3 #[.slice a n c, .int .i64 at_, .int .u8 by_] w fun e w' => e = .returned (.bool true) ∧ Below w.heap.size w w' := by
  by_cases h : n = 0 ∨ 300 < n ∨ at_ < 0 ∨ (n : Int) ≤ at_ ∨ by_ = 0
  · exact netOwn_bad w a n c at_ by_ h
  · obtain ⟨k, rfl⟩ : ∃ k : Nat, at_ = k := ⟨at_.toNat, by omega⟩
    exact netOwn_good w a n c k by_ bs hA (by omega) (by omega) (by omega) (by omega)
end Go.Proofs.Ytjffmdfkodkidaa
