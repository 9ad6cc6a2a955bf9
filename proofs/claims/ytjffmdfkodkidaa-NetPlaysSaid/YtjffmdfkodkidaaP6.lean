/- An evaluator over symbolic values, proved sound over the model's machine, and its use at this seat; no condition. Part 6. -/
import Derived.Test.YtjffmdfkodkidaaP5
set_option linter.unusedSimpArgs false
set_option linter.unusedVariables false
set_option linter.unusedSectionVars false
set_option linter.deprecated false
namespace Go.Proofs.Ytjffmdfkodkidaa
open Go.RowKit
set_option linter.unusedVariables false
section
variable {B : Nat} {w : World} {bm : Nat} {v : Value} {L : List (Nat × List Int)} {sent : Int} {a : Option Addr} {c : Nat}
set_option maxRecDepth 10000 in
set_option maxHeartbeats 2000000 in
theorem step_spoil (H : Both B w bm v (.slice a L.length c) L sent) (hl : ∀ x ∈ L, x.2.length ≤ 300) (hL : L.length ≤ 100) (by_ : Int) (y : Value) (k : Nat) (hk : k < L.length) (q : Nat) (hat : ∀ x, L[k]? = some x → q < x.2.length) (hby : by_ ≠ 0) :
    Calls Try.prog 19 #[.pointer (some ⟨bm, 0, none⟩), .agg #[.slice a L.length c, .int .i64 sent], .agg #[.int .i64 5, .int .i64 (k : Int), .int .i64 (q : Int), .int .u8 by_, y]] w (StepR B w bm L) := by
  obtain ⟨x, hx⟩ : ∃ x, L[k]? = some x := ⟨L[k], List.getElem?_eq_getElem hk⟩
  have hmx : (L.map (·.2))[k]? = some x.2 := by simp [hx]
  have hxl := hl x (List.mem_of_getElem? hx)
  have hqx := hat x hx
  go_enter Try.func19, Try.ntmps19
  go_wp2_with (go_at_call 99; skip)
  have S1 := SB.start w (.slice a L.length c) sent 5 (k : Int) (q : Int) by_ y
  have st1 : Still w (((w.alloc (.cells #[.slice a L.length c, .int .i64 sent] 41)).alloc (.cells #[.int .i64 5, .int .i64 (k : Int), .int .i64 (q : Int), .int .u8 by_, y] 43)).alloc (.cells #[.slice none 0 0, .int .i64 0] 41)) := ((Chg.alloc _ w _).trans (Chg.alloc _ _ _)).trans (Chg.alloc _ _ _)
  generalize ((w.alloc (.cells #[.slice a L.length c, .int .i64 sent] 41)).alloc (.cells #[.int .i64 5, .int .i64 (k : Int), .int .i64 (q : Int), .int .u8 by_, y] 43)).alloc (.cells #[.slice none 0 0, .int .i64 0] 41) = W1 at *
  have ec0 := S1.c10
  have ec1 := S1.c11
  have ec2 := S1.c12
  have ec3 := S1.c13
  go_at_call 29
  refine (rspoil_ok W1 a L.length c sent (L.map (·.2)) k x.2 q by_ (H.ref.still st1) hmx hqx hby (by omega) (by omega)).mono ?_
  rintro e w2 ⟨u', rfl, R2, st2, low2⟩
  rw [show (L.map (·.2)).set k (flip x.2 q by_) = (L.set k ((0 : Nat), flip x.2 q by_)).map (·.2) from (by rw [List.map_set])] at R2
  obtain ⟨a2, c2, rfl, _⟩ := id R2
  rw [List.length_map] at R2 low2 ⊢
  have ap2 : 0 < (L.set k ((0 : Nat), flip x.2 q by_)).length → Apart v (.slice a2 (L.set k ((0 : Nat), flip x.2 q by_)).length c2) := fun _ => apart_new H.net (fun k hk => Nat.le_trans st1.size (low2 k hk))
  obtain ⟨n2, hn2⟩ : ∃ n2, n2 = (L.set k ((0 : Nat), flip x.2 q by_)).length := ⟨_, rfl⟩
  rw [← hn2] at R2 low2 ⊢
  rw [← hn2] at ap2
  have HN : Hid (n2 = (L.set k ((0 : Nat), flip x.2 q by_)).length) := hn2
  clear hn2
  have S2 := S1.still st2
  have st2' := st1.trans st2
  have N2 := H.net.still st2'
  have ec20 := S2.c11
  have ec21 := S2.c12
  have ec22 := S2.c13
  clear S1 st2 ec0 ec1 ec2 ec3
  go_wp2_with (go_at_call 99; skip)
  have T3 := Box1.new w2 (.slice a2 n2 c2) (sent)
  have stA : Still w2 (w2.alloc (.cells #[.slice a2 n2 c2, .int .i64 (sent)] 41)) := Chg.alloc _ _ _
  generalize hk8 : w2.heap.size = k8 at *
  generalize w2.alloc (.cells #[.slice a2 n2 c2, .int .i64 (sent)] 41) = w3 at *
  have S3 := S2.still stA
  have N3 := N2.still stA
  have R3 := R2.still stA
  have st3 := st2'.trans stA
  have cc1 := S3.c11
  have cc2 := S3.c12
  have cc3 := S3.c13
  have cT0 := T3.c0
  have cT1 := T3.c1
  have N3d := N3.still (still_drew w3)
  have hnet := spoil_ok N3d k x hx (by omega) q hqx by_ hby (by omega)
  have hfin : ∀ v4 w4 L4, L4.map (·.2) = (L.set k ((0 : Nat), flip x.2 q by_)).map (·.2) → Fresh w3.drew v v4 → Net B w4 bm v4 L4 (sent) → Chg (netS bm v) w3.drew w4 → SB w.heap.size w4 (.slice a L.length c) sent 5 (k : Int) (q : Int) by_ y ∧ Box1 k8 w4 (.slice a2 n2 c2) (sent) ∧ Both B w4 bm v4 (.slice a2 n2 c2) L4 (sent) ∧ Low B w w4 := by
    intro v4 w4 L4 hm F4 N4 C4
    refine ⟨(S3.still (still_drew _)).netop N3d C4, (T3.still (still_drew _)).netop N3d C4, both_after N3d (R3.still (still_drew _)) (fun h0 => ap2 (by have := HN.out; simp at this h0; omega)) N4 C4 F4 hm, ?_⟩
    exact ((st3.trans (still_drew _)).low H.net.size).trans (N3d.low C4)
  have HF : Hid _ := hfin
  have HB := H.net.size
  clear hfin N2 N3 N3d R2 R3 S2 S3 T3 stA st3 st2' H
  go_region_law (go_simp; go_at_call 12; refine hnet.mono ?_; rintro e w4 ⟨rfl, N4, C4⟩; obtain ⟨S4, T4, B4, L4⟩ := HF.out v w4 _ (by rw [List.map_set, List.map_set]) (.inl rfl) N4 C4; have cU0 := T4.c0; have cU1 := T4.c1; have r0 := S4.c20; have r1 := S4.c21; have f0 := S4.f20 0; have f1 := S4.f20 1; have g1 := S4.c11; have g2 := S4.c12; have g3 := S4.c13)
  all_goals go_wp2
  all_goals (
    have hn2 := HN.out
    refine bodyPost_ret (v := .tuple #[.agg #[.slice a2 n2 c2, .int .i64 (sent)], .bool true]) (by rw [results_cell_tmp rfl]; go_simp) rfl ⟨v, a2, c2, L.set k (w3.drew.heap.size, flip x.2 q by_), (sent), ?_, ?_, ?_, ?_, ?_⟩
    · simp [hn2]
    · have := (B4.stored S4 L4 HB (.slice a2 n2 c2) (.int .i64 (sent))).1
      have e : n2 = (L.set k (w3.drew.heap.size, flip x.2 q by_)).length := (by simp [hn2]); rw [← e]; exact this
    · simp
    · intro z hz
      rcases List.mem_or_eq_of_mem_set hz with hz | hz
      · exact hl z hz
      · subst hz; simpa [length_flip] using hxl
    · exact (B4.stored S4 L4 HB _ _).2)
set_option maxRecDepth 10000 in
set_option maxHeartbeats 2000000 in
theorem step_spoil_out (H : Both B w bm v (.slice a L.length c) L sent) (hl : ∀ x ∈ L, x.2.length ≤ 300) (hL : L.length ≤ 100) (i : Int) (at_ : Int) (by_ : Int) (y : Value) (hi : i < 0 ∨ (L.length : Int) ≤ i) :
    Calls Try.prog 19 #[.pointer (some ⟨bm, 0, none⟩), .agg #[.slice a L.length c, .int .i64 sent], .agg #[.int .i64 5, .int .i64 i, .int .i64 at_, .int .u8 by_, y]] w (StepR B w bm L) := by
  have hi' : i < 0 ∨ (L.length : Int) ≤ i := hi
  go_enter Try.func19, Try.ntmps19
  go_wp2_with (go_at_call 99; skip)
  have S1 := SB.start w (.slice a L.length c) sent 5 i at_ by_ y
  have st1 : Still w (((w.alloc (.cells #[.slice a L.length c, .int .i64 sent] 41)).alloc (.cells #[.int .i64 5, .int .i64 i, .int .i64 at_, .int .u8 by_, y] 43)).alloc (.cells #[.slice none 0 0, .int .i64 0] 41)) := ((Chg.alloc _ w _).trans (Chg.alloc _ _ _)).trans (Chg.alloc _ _ _)
  generalize ((w.alloc (.cells #[.slice a L.length c, .int .i64 sent] 41)).alloc (.cells #[.int .i64 5, .int .i64 i, .int .i64 at_, .int .u8 by_, y] 43)).alloc (.cells #[.slice none 0 0, .int .i64 0] 41) = W1 at *
  have ec0 := S1.c10
  have ec1 := S1.c11
  have ec2 := S1.c12
  have ec3 := S1.c13
  go_at_call 29
  refine (rspoil_out W1 a L.length c sent i at_ by_ hi).mono ?_
  rintro e w2 ⟨rfl, st2⟩
  have R2 := (H.ref.still st1).still st2
  have ap2 : 0 < L.length → Apart v (.slice a L.length c) := H.apart
  obtain ⟨a2, ha2⟩ : ∃ a2, a2 = a := ⟨_, rfl⟩
  obtain ⟨c2, hc2⟩ : ∃ c2, c2 = c := ⟨_, rfl⟩
  obtain ⟨n2, hn2⟩ : ∃ n2, n2 = (L).length := ⟨_, rfl⟩
  skip
  skip
  have HN : Hid (n2 = (L).length) := hn2
  clear hn2
  have S2 := S1.still st2
  have st2' := st1.trans st2
  have N2 := H.net.still st2'
  have ec20 := S2.c11
  have ec21 := S2.c12
  have ec22 := S2.c13
  clear S1 st2 ec0 ec1 ec2 ec3
  go_wp2_with (go_at_call 99; skip)
  have T3 := Box1.new w2 (.slice a L.length c) (sent)
  have stA : Still w2 (w2.alloc (.cells #[.slice a L.length c, .int .i64 (sent)] 41)) := Chg.alloc _ _ _
  generalize hk8 : w2.heap.size = k8 at *
  generalize w2.alloc (.cells #[.slice a L.length c, .int .i64 (sent)] 41) = w3 at *
  have S3 := S2.still stA
  have N3 := N2.still stA
  have R3 := R2.still stA
  have st3 := st2'.trans stA
  have cc1 := S3.c11
  have cc2 := S3.c12
  have cc3 := S3.c13
  have cT0 := T3.c0
  have cT1 := T3.c1
  have N3d := N3.still (still_drew w3)
  have hnet := spoil_bad N3d i hi at_ by_
  have hfin : ∀ w4, Still w3.drew w4 → SB w.heap.size w4 (.slice a L.length c) sent 5 i at_ by_ y ∧ Box1 k8 w4 (.slice a L.length c) (sent) ∧ Both B w4 bm v (.slice a L.length c) L sent ∧ Low B w w4 := by
    intro w4 C4
    have sA := (still_drew w3).trans C4
    exact ⟨S3.still sA, T3.still sA, ⟨N3.still sA, R3.still sA, ap2⟩, (st3.trans sA).low H.net.size⟩
  have HF : Hid _ := hfin
  have HB := H.net.size
  clear hfin N2 N3 N3d R2 R3 S2 S3 T3 stA st3 st2' H
  go_region_law (go_simp; go_at_call 12; refine hnet.mono ?_; rintro e w4 ⟨rfl, hw4⟩; have C4 : Still w3.drew w4 := (by rw [hw4]; exact Chg.refl _ _); clear hw4; obtain ⟨S4, T4, B4, L4⟩ := HF.out w4 C4; have cU0 := T4.c0; have cU1 := T4.c1; have r0 := S4.c20; have r1 := S4.c21; have f0 := S4.f20 0; have f1 := S4.f20 1; have g1 := S4.c11; have g2 := S4.c12; have g3 := S4.c13)
  all_goals go_wp2
  all_goals (
    have hn2 := HN.out
    refine bodyPost_ret (v := .tuple #[.agg #[.slice a L.length c, .int .i64 (sent)], .bool true]) (by rw [results_cell_tmp rfl]; go_simp) rfl ⟨v, a, c, L, (sent), ?_, ?_, ?_, ?_, ?_⟩
    · rfl
    · have := (B4.stored S4 L4 HB (.slice a L.length c) (.int .i64 (sent))).1
      exact this
    · omega
    · exact hl
    · exact (B4.stored S4 L4 HB _ _).2)
set_option maxRecDepth 10000 in
set_option maxHeartbeats 2000000 in
theorem step_spoil_bad (H : Both B w bm v (.slice a L.length c) L sent) (hl : ∀ x ∈ L, x.2.length ≤ 300) (hL : L.length ≤ 100) (at_ : Int) (by_ : Int) (y : Value) (k : Nat) (hk : k < L.length) (hb : ∀ x, L[k]? = some x → at_ < 0 ∨ (x.2.length : Int) ≤ at_ ∨ by_ = 0) :
    Calls Try.prog 19 #[.pointer (some ⟨bm, 0, none⟩), .agg #[.slice a L.length c, .int .i64 sent], .agg #[.int .i64 5, .int .i64 (k : Int), .int .i64 at_, .int .u8 by_, y]] w (StepR B w bm L) := by
  obtain ⟨x, hx⟩ : ∃ x, L[k]? = some x := ⟨L[k], List.getElem?_eq_getElem hk⟩
  have hmx : (L.map (·.2))[k]? = some x.2 := by simp [hx]
  have hxl := hl x (List.mem_of_getElem? hx)
  have hbx := hb x hx
  go_enter Try.func19, Try.ntmps19
  go_wp2_with (go_at_call 99; skip)
  have S1 := SB.start w (.slice a L.length c) sent 5 (k : Int) at_ by_ y
  have st1 : Still w (((w.alloc (.cells #[.slice a L.length c, .int .i64 sent] 41)).alloc (.cells #[.int .i64 5, .int .i64 (k : Int), .int .i64 at_, .int .u8 by_, y] 43)).alloc (.cells #[.slice none 0 0, .int .i64 0] 41)) := ((Chg.alloc _ w _).trans (Chg.alloc _ _ _)).trans (Chg.alloc _ _ _)
  generalize ((w.alloc (.cells #[.slice a L.length c, .int .i64 sent] 41)).alloc (.cells #[.int .i64 5, .int .i64 (k : Int), .int .i64 at_, .int .u8 by_, y] 43)).alloc (.cells #[.slice none 0 0, .int .i64 0] 41) = W1 at *
  have ec0 := S1.c10
  have ec1 := S1.c11
  have ec2 := S1.c12
  have ec3 := S1.c13
  go_at_call 29
  refine (rspoil_bad W1 a L.length c sent (L.map (·.2)) k x.2 at_ by_ (H.ref.still st1) hmx hbx).mono ?_
  rintro e w2 ⟨rfl, st2⟩
  have R2 := (H.ref.still st1).still st2
  have ap2 : 0 < L.length → Apart v (.slice a L.length c) := H.apart
  obtain ⟨a2, ha2⟩ : ∃ a2, a2 = a := ⟨_, rfl⟩
  obtain ⟨c2, hc2⟩ : ∃ c2, c2 = c := ⟨_, rfl⟩
  obtain ⟨n2, hn2⟩ : ∃ n2, n2 = (L).length := ⟨_, rfl⟩
  skip
  skip
  have HN : Hid (n2 = (L).length) := hn2
  clear hn2
  have S2 := S1.still st2
  have st2' := st1.trans st2
  have N2 := H.net.still st2'
  have ec20 := S2.c11
  have ec21 := S2.c12
  have ec22 := S2.c13
  clear S1 st2 ec0 ec1 ec2 ec3
  go_wp2_with (go_at_call 99; skip)
  have T3 := Box1.new w2 (.slice a L.length c) (sent)
  have stA : Still w2 (w2.alloc (.cells #[.slice a L.length c, .int .i64 (sent)] 41)) := Chg.alloc _ _ _
  generalize hk8 : w2.heap.size = k8 at *
  generalize w2.alloc (.cells #[.slice a L.length c, .int .i64 (sent)] 41) = w3 at *
  have S3 := S2.still stA
  have N3 := N2.still stA
  have R3 := R2.still stA
  have st3 := st2'.trans stA
  have cc1 := S3.c11
  have cc2 := S3.c12
  have cc3 := S3.c13
  have cT0 := T3.c0
  have cT1 := T3.c1
  have N3d := N3.still (still_drew w3)
  have hnet := spoil_at N3d k x hx (by omega) at_ by_ hbx
  have hfin : ∀ w4, Still w3.drew w4 → SB w.heap.size w4 (.slice a L.length c) sent 5 (k : Int) at_ by_ y ∧ Box1 k8 w4 (.slice a L.length c) (sent) ∧ Both B w4 bm v (.slice a L.length c) L sent ∧ Low B w w4 := by
    intro w4 C4
    have sA := (still_drew w3).trans C4
    exact ⟨S3.still sA, T3.still sA, ⟨N3.still sA, R3.still sA, ap2⟩, (st3.trans sA).low H.net.size⟩
  have HF : Hid _ := hfin
  have HB := H.net.size
  clear hfin N2 N3 N3d R2 R3 S2 S3 T3 stA st3 st2' H
  go_region_law (go_simp; go_at_call 12; refine hnet.mono ?_; rintro e w4 ⟨rfl, hw4⟩; have C4 : Still w3.drew w4 := (by rw [hw4]; exact Chg.alloc _ _ _); clear hw4; obtain ⟨S4, T4, B4, L4⟩ := HF.out w4 C4; have cU0 := T4.c0; have cU1 := T4.c1; have r0 := S4.c20; have r1 := S4.c21; have f0 := S4.f20 0; have f1 := S4.f20 1; have g1 := S4.c11; have g2 := S4.c12; have g3 := S4.c13)
  all_goals go_wp2
  all_goals (
    have hn2 := HN.out
    refine bodyPost_ret (v := .tuple #[.agg #[.slice a L.length c, .int .i64 (sent)], .bool true]) (by rw [results_cell_tmp rfl]; go_simp) rfl ⟨v, a, c, L, (sent), ?_, ?_, ?_, ?_, ?_⟩
    · rfl
    · have := (B4.stored S4 L4 HB (.slice a L.length c) (.int .i64 (sent))).1
      exact this
    · omega
    · exact hl
    · exact (B4.stored S4 L4 HB _ _).2)
end
end Go.Proofs.Ytjffmdfkodkidaa

