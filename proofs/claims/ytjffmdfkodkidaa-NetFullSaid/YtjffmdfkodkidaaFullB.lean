/- The seat's tables and runs, for the evaluator; no condition. -/
import Derived.Test.YtjffmdfkodkidaaOps
import Derived.LoopTactic
set_option linter.unusedSimpArgs false
set_option linter.unusedVariables false
set_option linter.unusedSectionVars false
set_option linter.deprecated false
namespace Go.Proofs.Ytjffmdfkodkidaa
open Go.RowKit
set_option linter.unusedVariables false
theorem Reads.source0 {w : World} {a : Option Addr} {n c : Nat} {bs : List Int} (h : Reads w (.slice a n c) bs) : bs.length = n ∧ (0 < n → ∃ ad, a = some ad ∧ ∀ j u, (bytesV bs)[j]? = some u → w.cell? (ad.add j) = some u) := by
  obtain ⟨a', c', he, ha⟩ := h
  have he2 := he
  simp only [Value.slice.injEq] at he
  obtain ⟨_, e2, _⟩ := he
  exact ⟨e2.symm, fun hn => (Reads.source ⟨a', c', he2, ha⟩ hn).2⟩
/-- k packets of the same bytes. -/
structure Full (w wr : World) (bs : List Int) (k : Nat) (v : Value) (L : List (Nat × List Int)) : Prop where
  net : Net w.heap.size wr w.heap.size v L k
  len : L.length = k
  all : ∀ x ∈ L, x.2 = bs
  below : Below w.heap.size w wr
theorem wrap_succ (k : Nat) (hk : k < 1000000) : wrap64 ((k : Int) + 1) = ((k + 1 : Nat) : Int) := by
  unfold wrap64
  omega
theorem Full.send {w wr w' : World} {bs : List Int} {k : Nat} {v v' : Value} {L : List (Nat × List Int)} {p : Nat} (F : Full w wr bs k v L) (hk : k < 1000000) (H : Net w.heap.size w' w.heap.size v' (L ++ [(p, bs)]) (wrap64 ((k : Int) + 1))) (C : Chg (netS w.heap.size v) wr w') :
    Full w w' bs (k + 1) v' (L ++ [(p, bs)]) := by
  rw [wrap_succ k hk] at H
  refine ⟨H, by simp [F.len], ?_, F.below.trans (F.net.below C)⟩
  intro x hx
  rcases List.mem_append.1 hx with hx | hx
  · exact F.all x hx
  · simp at hx; subst hx; rfl
theorem Full.send_call {w wr : World} {bs : List Int} {k : Nat} {v : Value} {L : List (Nat × List Int)} (F : Full w wr bs k v L) (hk : k < 512) {a : Option Addr} {n c : Nat} (hA : Reads w (.slice a n c) bs) (hn : n ≤ 30) :
    Calls Try.prog 9 #[.pointer (some ⟨w.heap.size, 0, none⟩), .slice a n c] wr fun e w' => e = .returned (.int .i64 0) ∧ ∃ v' L', Full w w' bs (k + 1) v' L' := by
  obtain ⟨h1, h2⟩ := (hA.below F.below (Nat.le_refl _)).source0
  exact (send_ok w.heap.size wr w.heap.size v L k F.net (by rw [F.len]; exact hk) a n c bs h1 (by omega) h2).mono fun e w' ⟨h3, v', p, H, C⟩ => ⟨h3, v', _, F.send (by omega) H C⟩
set_option maxHeartbeats 2000000 in
theorem netFull_good (w : World) (a : Option Addr) (n c m : Nat) (bs : List Int) (hA : Reads w (.slice a n c) bs) (hn : n ≤ 30) (hm : m ≤ 65535) :
    Calls Try.prog 4 #[.slice a n c, .int .u16 m] w fun e w' => e = .returned (.bool true) ∧ Below w.heap.size w w' := by
  have hn1 : ¬ ((30 : Int) < (n : Int)) := by omega
  go_enter Try.func4, Try.ntmps4
  go_wp2_with (go_at_call 8; refine (new_ok _).mono ?_; rintro e w' ⟨rfl, rfl⟩)
  have F0 : ∃ v L, Full w (w.alloc (.cells #[.slice none 0 0, .int .i64 0] 50)) bs 0 v L := ⟨.slice none 0 0, [], new_net w _ (Nat.le_refl _), rfl, (fun x h => by cases h), Below.alloc (Below.refl _ _) (Nat.le_refl _) _⟩
  generalize w.alloc (.cells #[.slice none 0 0, .int .i64 0] 50) = w1 at F0 ⊢
  go_loopw [6] (fun i wr => ∃ k : Nat, k ≤ 512 ∧ i = .int .i64 k ∧ Hid (∃ v L, Full w wr bs k v L)) (fun i _ => 512 - (intOf i).toNat)
  case atStart => exact ⟨0, by omega, rfl, F0⟩
  case round =>
    clear F0
    obtain ⟨k, hk, rfl, hF⟩ := hrel
    by_cases hlt : k < 512
    · have hlt' : (k : Int) < 512 := by omega
      obtain ⟨v, L, F⟩ := hF.out
      clear hF
      have hc := F.send_call hlt hA hn
      clear F
      go_wp2_with (go_at_call 9; refine hc.mono ?_; rintro e w' ⟨rfl, hF⟩; have HF : Hid _ := hF; clear hF)
      go_roundw
      case rel => exact ⟨k + 1, by omega, by go_num, HF⟩
      case measure => simp only [intOf]; omega
    · have hge : k = 512 := by omega
      subst hge
      obtain ⟨v, L, F⟩ := hF.out
      clear hF hk hlt
      obtain ⟨q, hq, hq2⟩ : ∃ q : Nat, (m : Int) % 512 = q ∧ q < 512 := ⟨m % 512, by omega, by omega⟩
      have F : Full w wr bs 512 v L := F
      obtain ⟨x, hx⟩ : ∃ x, L[q]? = some x := ⟨L[q]'(by rw [F.len]; exact hq2), List.getElem?_eq_getElem _⟩
      have hxb := F.all x (List.mem_of_getElem? hx)
      have hL := F.len
      have hbl := (hA.below F.below (Nat.le_refl _)).source0.1
      have H1 := F.net
      have hxl : x.2.length = n := by rw [hxb, hbl]
      have b1 := F.below
      have hall := F.all
      clear F
      go_wp2_with (go_at_call 99; skip)
      rw [hq]
      clear hq hm
      go_at_call 9
      refine (send_full H1 (by omega) a n c (by omega)).mono ?_
      rintro e w2 ⟨rfl, rfl⟩
      go_wp2_with (go_at_call 99; skip)
      go_at_call 10
      refine (double_full H1 q x hx (by omega) (by omega)).mono ?_
      rintro e w3 ⟨rfl, rfl⟩
      have H3 := H1.alloc' (.cells (bytesV x.2).toArray 5)
      have b3 : Below w.heap.size w (w2.alloc (.cells (bytesV x.2).toArray 5)) := b1.alloc H1.size _
      clear H1 b1
      generalize w2.alloc (.cells (bytesV x.2).toArray 5) = w3 at *
      go_wp2_with (go_at_call 99; skip)
      go_at_call 13
      refine (take_st H3 q x hx (by omega) (by omega)).mono ?_
      rintro e w4 ⟨p, v4, rfl, R4, H4, C4⟩
      have b4 := b3.trans (H3.below C4)
      have hL4 : (L.eraseIdx q).length = 511 := by rw [List.length_eraseIdx, if_pos (by omega)]; omega
      clear H3 C4 b3
      rw [hxl]
      go_wp2_with (go_at_call 99; skip)
      go_at_call 9
      obtain ⟨g1, g2⟩ := (hA.below b4 (Nat.le_refl _)).source0
      refine (send_ok w.heap.size w4 w.heap.size v4 _ _ H4 (by omega) a n c bs g1 (by omega) g2).mono ?_
      rintro e w5 ⟨rfl, v5, p5, H5, C5⟩
      have b5 := b4.trans (H4.below C5)
      have R5 := R4.chg C5 (R4.free H4)
      have hL5 : (L.eraseIdx q ++ [(p5, bs)]).length = 512 := by rw [List.length_append, hL4]; rfl
      have A5 := hA.below b5 (Nat.le_refl _)
      have X5 : Reads w5 (hdr p n) bs := by
        have := R5.reads n
        rw [hxb] at this
        rwa [hbl] at this
      clear H4 C5 b4 R4 g2 R5
      have hs5 : wrap64 (((512 : Nat) : Int) + 1) = ((513 : Nat) : Int) := wrap_succ 512 (by omega)
      rw [hs5] at H5
      go_wp2_with (go_at_call 99; skip)
      go_at_call 14
      refine (same_eq w5 _ _ bs X5 A5 (by omega)).mono ?_
      rintro e w6 ⟨rfl, C6⟩
      have H6 := H5.chg C6 (fun h => h) (fun _ _ h => h) (fun _ _ h => h)
      have b6 : Below w.heap.size w w6 := b5.trans (C6.below H5.size (fun k h => h.elim))
      clear H5 C6 b5 A5 X5
      go_wp2_with (go_at_call 99; skip)
      go_at_call 15
      refine (len_ok H6).mono ?_
      rintro e w7 ⟨rfl, rfl⟩
      rw [hL5]
      go_wp2_with (go_at_call 99; skip)
      go_at_call 16
      refine (sent_ok H6).mono ?_
      rintro e w8 ⟨rfl, rfl⟩
      clear H6
      go_wp2_with (go_at_call 99; skip)
      go_at_call 7
      refine (Try.awake _).mono ?_
      rintro e w9 ⟨rfl, b9⟩
      have b10 : Below w.heap.size w w9 := b6.trans (b9.mono b6.size)
      clear b9 b6
      go_wp2
      go_ret
      exact ⟨rfl, b10⟩
theorem netFull_walk (w : World) (a : Option Addr) (n c : Nat) (a1 : Int) (h1 : 0 ≤ a1) (h2 : a1 ≤ 65535) (bs : List Int) (hA : Reads w (.slice a n c) bs) :
    Calls Try.prog 4 #[.slice a n c, .int .u16 a1] w fun e w' => e = .returned (.bool true) ∧ Below w.heap.size w w' := by
  by_cases h : n ≤ 30
  · obtain ⟨m, rfl⟩ : ∃ m : Nat, a1 = m := ⟨a1.toNat, by omega⟩
    exact netFull_good w a n c m bs hA h (by omega)
  · have h' : (30 : Int) < (n : Int) := by omega
    clear h
    go_enter Try.func4, Try.ntmps4
    go_wp2_with (go_at_call 7; refine (Try.awake _).mono ?_; rintro e w' ⟨rfl, hb⟩)
    go_ret
    exact ⟨rfl, hb⟩
end Go.Proofs.Ytjffmdfkodkidaa
