/- An evaluator over symbolic values, proved sound over the model's machine, and its use at this seat; no condition. Part 7. -/
import Derived.LoopTactic
import Derived.Test.YtjffmdfkodkidaaP6
set_option linter.unusedSimpArgs false
set_option linter.unusedVariables false
set_option linter.unusedSectionVars false
set_option linter.deprecated false
namespace Go.Proofs.Ytjffmdfkodkidaa
open Go.RowKit
set_option linter.unusedVariables false
section
variable {B : Nat} {w : World} {bm : Nat} {v : Value} {L : List (Nat × List Int)} {sent : Int} {a : Option Addr} {c : Nat}
set_option maxRecDepth 10000 in
set_option maxHeartbeats 2000000 in
theorem step_clear (H : Both B w bm v (.slice a L.length c) L sent) (hl : ∀ x ∈ L, x.2.length ≤ 300) (hL : L.length ≤ 100) (i : Int) (at_ by_ : Int) (y : Value)  :
    Calls Try.prog 19 #[.pointer (some ⟨bm, 0, none⟩), .agg #[.slice a L.length c, .int .i64 sent], .agg #[.int .i64 6, .int .i64 i, .int .i64 at_, .int .u8 by_, y]] w (StepR B w bm L) := by
  go_enter Try.func19, Try.ntmps19
  go_wp2_with (go_at_call 99; skip)
  have S1 := SB.start w (.slice a L.length c) sent 6 i at_ by_ y
  have st1 : Still w (((w.alloc (.cells #[.slice a L.length c, .int .i64 sent] 41)).alloc (.cells #[.int .i64 6, .int .i64 i, .int .i64 at_, .int .u8 by_, y] 43)).alloc (.cells #[.slice none 0 0, .int .i64 0] 41)) := ((Chg.alloc _ w _).trans (Chg.alloc _ _ _)).trans (Chg.alloc _ _ _)
  generalize ((w.alloc (.cells #[.slice a L.length c, .int .i64 sent] 41)).alloc (.cells #[.int .i64 6, .int .i64 i, .int .i64 at_, .int .u8 by_, y] 43)).alloc (.cells #[.slice none 0 0, .int .i64 0] 41) = W1 at *
  have ec01 := S1.c01
  have N1 := H.net.still st1
  go_at_call 21
  refine (clear_ok N1).mono ?_
  rintro e w2 ⟨rfl, v2, N2, C2, F2⟩
  have S2 := S1.netop N1 C2
  have B2 : Both B w2 bm v2 (.slice none 0 0) [] sent := ⟨N2, RefL.nil _, fun h => absurd h (by simp)⟩
  have L2 : Low B w w2 := (st1.low H.net.size).trans (N1.low C2)
  have HB := H.net.size
  have ed01 := S2.c01
  have r0 := S2.c20
  have r1 := S2.c21
  have f0 := S2.f20 0
  have f1 := S2.f20 1
  have hst := B2.stored S2 L2 HB (.slice none 0 0) (.int .i64 sent)
  have HS : Hid _ := hst
  clear hst S2 B2 L2 N2 C2 N1 S1 H st1
  go_wp2
  refine bodyPost_ret (v := .tuple #[.agg #[.slice none 0 0, .int .i64 (sent)], .bool true]) (by rw [results_cell_tmp rfl]; go_simp) rfl ⟨v2, none, 0, [], (sent), ?_, ?_, ?_, ?_, ?_⟩
  · rfl
  · exact HS.out.1
  · simp
  · exact fun x hx => by cases hx
  · exact HS.out.2
end
end Go.Proofs.Ytjffmdfkodkidaa

namespace Go.Proofs.Ytjffmdfkodkidaa
open Go.RowKit
set_option linter.unusedVariables false
section
variable {B : Nat} {w : World} {bm : Nat} {v : Value} {L : List (Nat × List Int)} {sent : Int} {a : Option Addr} {c : Nat}
set_option maxRecDepth 10000 in
set_option maxHeartbeats 2000000 in
theorem step_look (H : Both B w bm v (.slice a L.length c) L sent) (hl : ∀ x ∈ L, x.2.length ≤ 300) (hL : L.length ≤ 100) (K : Int) (h1 : K ≠ 1) (h2 : K ≠ 2) (h3 : K ≠ 3) (h4 : K ≠ 4) (h5 : K ≠ 5) (h6 : K ≠ 6) (at_ by_ : Int) (y : Value) (k : Nat) (hk : k < L.length) :
    Calls Try.prog 19 #[.pointer (some ⟨bm, 0, none⟩), .agg #[.slice a L.length c, .int .i64 sent], .agg #[.int .i64 K, .int .i64 (k : Int), .int .i64 at_, .int .u8 by_, y]] w (StepR B w bm L) := by
  obtain ⟨x, hx⟩ : ∃ x, L[k]? = some x := ⟨L[k], List.getElem?_eq_getElem hk⟩
  have hmx : (L.map (·.2))[k]? = some x.2 := by simp [hx]
  have hxl := hl x (List.mem_of_getElem? hx)
  have q1 : (K == 1) = false := by simpa using h1
  have q2 : (K == 2) = false := by simpa using h2
  have q3 : (K == 3) = false := by simpa using h3
  have q4 : (K == 4) = false := by simpa using h4
  have q5 : (K == 5) = false := by simpa using h5
  have q6 : (K == 6) = false := by simpa using h6
  go_enter Try.func19, Try.ntmps19
  go_wp2_with (go_at_call 99; skip)
  have S1 := SB.start w (.slice a L.length c) sent K (k : Int) at_ by_ y
  have st1 : Still w (((w.alloc (.cells #[.slice a L.length c, .int .i64 sent] 41)).alloc (.cells #[.int .i64 K, .int .i64 (k : Int), .int .i64 at_, .int .u8 by_, y] 43)).alloc (.cells #[.slice none 0 0, .int .i64 0] 41)) := ((Chg.alloc _ w _).trans (Chg.alloc _ _ _)).trans (Chg.alloc _ _ _)
  generalize ((w.alloc (.cells #[.slice a L.length c, .int .i64 sent] 41)).alloc (.cells #[.int .i64 K, .int .i64 (k : Int), .int .i64 at_, .int .u8 by_, y] 43)).alloc (.cells #[.slice none 0 0, .int .i64 0] 41) = W1 at *
  have ec1 := S1.c11
  go_at_call 26
  refine (rlook_ok W1 a L.length c sent (L.map (·.2)) k x.2 (H.ref.still st1) hmx).mono ?_
  rintro e w2 ⟨yv, rfl, Y2, st2⟩
  obtain ⟨ay, cy, rfl, _⟩ := id Y2
  have S2 := S1.still st2
  have st2' := st1.trans st2
  have ed0 := S2.c00
  have ed01 := S2.c01
  have ed1 := S2.c11
  clear S1 st2 ec1
  go_wp2_with (go_at_call 99; skip)
  go_at_call 11
  refine (look_st (H.net.still st2') k x hx (by omega)).mono ?_
  rintro e w5 ⟨p5, rfl, hp, P5, N5, C5⟩
  have S5 := S2.still C5
  have Y5 := Y2.still C5
  have B5 := H.chg (st2'.trans C5) (fun k hk => hk.elim)
  have L5 : Low B w w5 := (st2'.trans C5).low H.net.size
  have HB := H.net.size
  clear S2 Y2 st2' N5 C5 H ed0 ed01 ed1 hp
  have x0 := S5.c00
  have x1 := S5.c01
  go_wp2_with (go_at_call 99; skip)
  have hsame := same_eq w5.drew _ _ x.2 (Y5.still (still_drew _)).reads ((P5.chg (still_drew _) (fun h => h)).reads x.2.length) (by omega)
  have hfin : ∀ w6, Still w5.drew w6 → SB w.heap.size w6 (.slice a L.length c) sent K (k : Int) at_ by_ y ∧ Both B w6 bm v (.slice a L.length c) L sent ∧ Low B w w6 := by
    intro w6 C6
    have sA := (still_drew w5).trans C6
    exact ⟨S5.still sA, B5.chg sA (fun k hk => hk.elim), L5.trans (sA.low B5.net.size)⟩
  have HF : Hid _ := hfin
  clear hfin S5 B5 Y5 L5 P5
  go_region_law (go_simp; go_at_call 14; refine hsame.mono ?_; rintro e w6 ⟨rfl, C6⟩; obtain ⟨S4, B4, L4⟩ := HF.out w6 C6; have cU0 := S4.c00; have cU1 := S4.c01; have r0 := S4.c20; have r1 := S4.c21; have f0 := S4.f20 0; have f1 := S4.f20 1)
  all_goals go_wp2
  all_goals (
    refine bodyPost_ret (v := .tuple #[.agg #[.slice a L.length c, .int .i64 (sent)], .bool true]) (by rw [results_cell_tmp rfl]; go_simp) rfl ⟨v, a, c, L, (sent), ?_, ?_, ?_, ?_, ?_⟩
    · rfl
    · exact (B4.stored S4 L4 HB (.slice a L.length c) (.int .i64 (sent))).1
    · omega
    · exact hl
    · exact (B4.stored S4 L4 HB _ _).2)
set_option maxRecDepth 10000 in
set_option maxHeartbeats 2000000 in
theorem step_look_bad (H : Both B w bm v (.slice a L.length c) L sent) (hl : ∀ x ∈ L, x.2.length ≤ 300) (hL : L.length ≤ 100) (K : Int) (h1 : K ≠ 1) (h2 : K ≠ 2) (h3 : K ≠ 3) (h4 : K ≠ 4) (h5 : K ≠ 5) (h6 : K ≠ 6) (i : Int) (at_ by_ : Int) (y : Value) (hi : i < 0 ∨ (L.length : Int) ≤ i) :
    Calls Try.prog 19 #[.pointer (some ⟨bm, 0, none⟩), .agg #[.slice a L.length c, .int .i64 sent], .agg #[.int .i64 K, .int .i64 i, .int .i64 at_, .int .u8 by_, y]] w (StepR B w bm L) := by
  have q1 : (K == 1) = false := by simpa using h1
  have q2 : (K == 2) = false := by simpa using h2
  have q3 : (K == 3) = false := by simpa using h3
  have q4 : (K == 4) = false := by simpa using h4
  have q5 : (K == 5) = false := by simpa using h5
  have q6 : (K == 6) = false := by simpa using h6
  go_enter Try.func19, Try.ntmps19
  go_wp2_with (go_at_call 99; skip)
  have S1 := SB.start w (.slice a L.length c) sent K i at_ by_ y
  have st1 : Still w (((w.alloc (.cells #[.slice a L.length c, .int .i64 sent] 41)).alloc (.cells #[.int .i64 K, .int .i64 i, .int .i64 at_, .int .u8 by_, y] 43)).alloc (.cells #[.slice none 0 0, .int .i64 0] 41)) := ((Chg.alloc _ w _).trans (Chg.alloc _ _ _)).trans (Chg.alloc _ _ _)
  generalize ((w.alloc (.cells #[.slice a L.length c, .int .i64 sent] 41)).alloc (.cells #[.int .i64 K, .int .i64 i, .int .i64 at_, .int .u8 by_, y] 43)).alloc (.cells #[.slice none 0 0, .int .i64 0] 41) = W1 at *
  have ec1 := S1.c11
  go_at_call 26
  refine (rlook_bad W1 a L.length c sent i hi).mono ?_
  rintro e w2 ⟨rfl, st2⟩
  have S2 := S1.still st2
  have st2' := st1.trans st2
  have ed0 := S2.c00
  have ed01 := S2.c01
  have ed1 := S2.c11
  clear S1 st2 ec1
  go_wp2_with (go_at_call 99; skip)
  go_at_call 11
  refine (look_bad (H.net.still st2') i hi).mono ?_
  rintro e w5 ⟨rfl, rfl⟩
  have HB := H.net.size
  go_wp2_with (go_at_call 99; skip)
  have hsame := same_eq w5.drew (.slice none 0 0) (.slice none 0 0) [] ⟨none, 0, rfl, fun h => absurd h (by simp)⟩ ⟨none, 0, rfl, fun h => absurd h (by simp)⟩ (by simp)
  have hfin : ∀ w6, Still w5.drew w6 → SB w.heap.size w6 (.slice a L.length c) sent K i at_ by_ y ∧ Both B w6 bm v (.slice a L.length c) L sent ∧ Low B w w6 := by
    intro w6 C6
    have sA := (still_drew w5).trans C6
    exact ⟨S2.still sA, H.chg (st2'.trans sA) (fun k hk => hk.elim), (st2'.trans sA).low H.net.size⟩
  have HF : Hid _ := hfin
  clear hfin S2 H st2'
  go_region_law (go_simp; go_at_call 14; refine hsame.mono ?_; rintro e w6 ⟨rfl, C6⟩; obtain ⟨S4, B4, L4⟩ := HF.out w6 C6; have cU0 := S4.c00; have cU1 := S4.c01; have r0 := S4.c20; have r1 := S4.c21; have f0 := S4.f20 0; have f1 := S4.f20 1)
  all_goals go_wp2
  all_goals (
    refine bodyPost_ret (v := .tuple #[.agg #[.slice a L.length c, .int .i64 (sent)], .bool true]) (by rw [results_cell_tmp rfl]; go_simp) rfl ⟨v, a, c, L, (sent), ?_, ?_, ?_, ?_, ?_⟩
    · rfl
    · exact (B4.stored S4 L4 HB (.slice a L.length c) (.int .i64 (sent))).1
    · omega
    · exact hl
    · exact (B4.stored S4 L4 HB _ _).2)
end
end Go.Proofs.Ytjffmdfkodkidaa

namespace Go.Proofs.Ytjffmdfkodkidaa
open Go.RowKit
set_option linter.unusedVariables false
section
variable {B : Nat} {w : World} {bm : Nat} {v : Value} {L : List (Nat × List Int)} {sent : Int} {a : Option Addr} {c : Nat}
/-- Any step. -/
theorem step_any (H : Both B w bm v (.slice a L.length c) L sent) (hl : ∀ x ∈ L, x.2.length ≤ 300) (hL : L.length ≤ 100) (K i at_ by_ : Int) (ab : Option Addr) (cb : Nat) (bs : List Int) (hb : Src w (.slice ab bs.length cb) bs) (hbl : bs.length ≤ 300) :
    Calls Try.prog 19 #[.pointer (some ⟨bm, 0, none⟩), .agg #[.slice a L.length c, .int .i64 sent], .agg #[.int .i64 K, .int .i64 i, .int .i64 at_, .int .u8 by_, .slice ab bs.length cb]] w (StepR B w bm L) := by
  have hin : (∃ k : Nat, i = (k : Int) ∧ k < L.length) ∨ (i < 0 ∨ (L.length : Int) ≤ i) := by
    by_cases h0 : i < 0
    · exact .inr (.inl h0)
    · by_cases h1 : i < (L.length : Int)
      · exact .inl ⟨i.toNat, by omega, by omega⟩
      · exact .inr (.inr (by omega))
  by_cases h1 : K = 1
  · subst h1; exact step_send H hl hL i at_ by_ ab cb bs hb hbl
  by_cases h2 : K = 2
  · subst h2
    rcases hin with ⟨k, rfl, hk⟩ | hi
    · exact step_take H hl hL at_ by_ _ k hk
    · exact step_take_bad H hl hL i at_ by_ _ hi
  by_cases h3 : K = 3
  · subst h3
    rcases hin with ⟨k, rfl, hk⟩ | hi
    · exact step_drop H hl hL at_ by_ _ k hk
    · exact step_drop_bad H hl hL i at_ by_ _ hi
  by_cases h4 : K = 4
  · subst h4
    rcases hin with ⟨k, rfl, hk⟩ | hi
    · exact step_double H hl hL at_ by_ _ k hk
    · exact step_double_bad H hl hL i at_ by_ _ hi
  by_cases h5 : K = 5
  · subst h5
    rcases hin with ⟨k, rfl, hk⟩ | hi
    · by_cases hq : 0 ≤ at_ ∧ at_ < ((L[k]'hk).2.length : Int) ∧ by_ ≠ 0
      · obtain ⟨g1, g2, g3⟩ := hq
        obtain ⟨q, rfl⟩ : ∃ q : Nat, at_ = (q : Int) := ⟨at_.toNat, by omega⟩
        refine step_spoil H hl hL by_ _ k hk q (fun x hx => ?_) g3
        rw [List.getElem?_eq_getElem hk] at hx
        simp only [Option.some.injEq] at hx
        subst hx
        omega
      · refine step_spoil_bad H hl hL at_ by_ _ k hk (fun x hx => ?_)
        rw [List.getElem?_eq_getElem hk] at hx
        simp only [Option.some.injEq] at hx
        subst hx
        by_cases q1 : at_ < 0
        · exact .inl q1
        · by_cases q2 : by_ = 0
          · exact .inr (.inr q2)
          · exact .inr (.inl (by
              apply Decidable.byContradiction
              intro q3
              exact hq ⟨by omega, by omega, q2⟩))
    · exact step_spoil_out H hl hL i at_ by_ _ hi
  by_cases h6 : K = 6
  · subst h6; exact step_clear H hl hL i at_ by_ _
  rcases hin with ⟨k, rfl, hk⟩ | hi
  · exact step_look H hl hL K h1 h2 h3 h4 h5 h6 at_ by_ _ k hk
  · exact step_look_bad H hl hL K h1 h2 h3 h4 h5 h6 i at_ by_ _ hi
end
end Go.Proofs.Ytjffmdfkodkidaa

namespace Go.Proofs.Ytjffmdfkodkidaa
open Go.RowKit
set_option linter.unusedVariables false
/-- A step, as it came in. -/
structure CStep where
  K : Int
  i : Int
  at_ : Int
  by_ : Int
  a : Option Addr
  c : Nat
  bs : List Int
structure StepAt (w : World) (b off : Nat) (s : CStep) : Prop where
  c0 : w.cell? ⟨b, off, none⟩ = some (.int .i64 s.K)
  c1 : w.cell? ⟨b, off + 1, none⟩ = some (.int .i64 s.i)
  c2 : w.cell? ⟨b, off + 2, none⟩ = some (.int .i64 s.at_)
  c3 : w.cell? ⟨b, off + 3, none⟩ = some (.int .u8 s.by_)
  c4 : w.cell? ⟨b, off + 4, none⟩ = some (.slice s.a s.bs.length s.c)
  src : Src w (.slice s.a s.bs.length s.c) s.bs
theorem low_cell {B : Nat} {w w' : World} (h : Below B w w') (hB : B = w.heap.size) {ad : Addr} {x : Value} (hc : w.cell? ad = some x) : w'.cell? ad = some x := by
  have hlt : ad.block < w.heap.size := by
    apply Decidable.byContradiction
    intro hn
    have : w.heap[ad.block]? = none := Array.getElem?_eq_none (by omega)
    simp [World.cell?, this] at hc
  rw [← hc]
  simp only [World.cell?, h.block ad.block (by omega)]
theorem StepAt.below {B : Nat} {w w' : World} {b off : Nat} {s : CStep} (H : StepAt w b off s) (h : Below B w w') (hB : B = w.heap.size) : StepAt w' b off s := by
  refine ⟨low_cell h hB H.c0, low_cell h hB H.c1, low_cell h hB H.c2, low_cell h hB H.c3, low_cell h hB H.c4, ?_⟩
  obtain ⟨a, c, h1, h2, h3⟩ := H.src
  refine ⟨a, c, h1, h2, fun h0 => ?_⟩
  obtain ⟨p, o, h4, h6⟩ := h3 h0
  exact ⟨p, o, h4, fun k hk => low_cell h hB (h6 k hk)⟩
/-- Where the plays stand. -/
def PlayS (w : World) (k bm : Nat) (wr : World) : Prop :=
  ∃ v a c L sent, Both w.heap.size wr bm v (.slice a L.length c) L sent ∧ Box1 (w.heap.size + 1) wr (.slice a L.length c) sent ∧ L.length ≤ k ∧ (∀ x ∈ L, x.2.length ≤ 300) ∧ Below w.heap.size w wr
theorem box_set {q : Nat} {w : World} {u0 : Value} {s0 : Int} (T : Box1 q w u0 s0) (u : Value) (s : Int) : Box1 q ((w.setCell ⟨q, 0, none⟩ u).setCell ⟨q, 1, none⟩ (.int .i64 s)) u s := by
  have h1 : (w.setCell ⟨q, 0, none⟩ u).heap[q]? = some (.cells #[u, .int .i64 s0] 41 (0, 0)) := by
    rw [setCell_eq_setRow w q 0 _ 41 _ _ T]
    exact setRow_heap w q _ _ 41 _ T
  unfold Box1
  rw [setCell_eq_setRow _ q 1 _ 41 _ _ h1]
  exact setRow_heap _ q _ _ 41 _ h1
theorem chg_set (q : Nat) (w : World) (x y : Value) : Chg (fun k => k = q) w ((w.setCell ⟨q, 0, none⟩ x).setCell ⟨q, 1, none⟩ y) := (Chg.set w q 0 x).trans (Chg.set _ q 1 y)
/-- Where the plays stand behind a step, ahead of the check. -/
def NextS (w : World) (k bm : Nat) (v u : Value) (L : List (Nat × List Int)) (sent : Int) (w5 : World) : Prop :=
  Both w.heap.size w5 bm v u L sent ∧ Box1 (w.heap.size + 1) w5 u sent ∧ L.length ≤ k + 1 ∧ (∀ x ∈ L, x.2.length ≤ 300) ∧ Below w.heap.size w w5
theorem next_set {w w4 : World} {k bm : Nat} {v u u0 : Value} {L : List (Nat × List Int)} {sent s0 : Int} (B4 : Both w.heap.size w4 bm v u L sent) (h1 : L.length ≤ k + 1) (h2 : ∀ x ∈ L, x.2.length ≤ 300) (hb : Below w.heap.size w w4) (T4 : Box1 (w.heap.size + 1) w4 u0 s0) :
    NextS w k bm v u L sent ((w4.setCell ⟨w.heap.size + 1, 0, none⟩ u).setCell ⟨w.heap.size + 1, 1, none⟩ (.int .i64 sent)) := by
  refine ⟨B4.chg (chg_set _ _ _ _) (fun j hj => ?_), box_set T4 _ _, h1, h2, hb.trans ((chg_set _ _ _ _).below B4.net.size (fun j hj => by omega))⟩
  subst hj
  exact ⟨_, _, _, T4, .inl rfl⟩
theorem next_A {w w4 : World} {k bm : Nat} {v u u0 : Value} {L : List (Nat × List Int)} {sent s0 : Int} (h : Both w.heap.size w4 bm v u L sent ∧ L.length ≤ k + 1 ∧ (∀ x ∈ L, x.2.length ≤ 300) ∧ Below w.heap.size w w4) (T4 : Box1 (w.heap.size + 1) w4 u0 s0) (o : Obj) :
    NextS w k bm v u L sent (((w4.setCell ⟨w.heap.size + 1, 0, none⟩ u).setCell ⟨w.heap.size + 1, 1, none⟩ (.int .i64 sent)).alloc o) := by
  obtain ⟨B4, h1, h2, hb⟩ := h
  obtain ⟨g1, g2, g3, g4, g5⟩ := next_set B4 h1 h2 hb T4
  have st := Chg.alloc (fun _ => False) ((w4.setCell ⟨w.heap.size + 1, 0, none⟩ u).setCell ⟨w.heap.size + 1, 1, none⟩ (.int .i64 sent)) o
  exact ⟨g1.chg st (fun k hk => hk.elim), g2.still st, g3, g4, g5.trans (st.below g1.net.size (fun k hk => hk.elim))⟩
theorem next_B {w w4 : World} {k bm r : Nat} {v u u0 u1 : Value} {L : List (Nat × List Int)} {sent s0 s1 : Int} (h : Both w.heap.size w4 bm v u L sent ∧ L.length ≤ k + 1 ∧ (∀ x ∈ L, x.2.length ≤ 300) ∧ Below w.heap.size w w4) (T4 : Box1 (w.heap.size + 1) w4 u0 s0)
    (W8 : Box1 r w4 u1 s1) (hr : w.heap.size + 1 < r) :
    NextS w k bm v u L sent ((((w4.setCell ⟨r, 0, none⟩ u).setCell ⟨r, 1, none⟩ (.int .i64 sent)).setCell ⟨w.heap.size + 1, 0, none⟩ u).setCell ⟨w.heap.size + 1, 1, none⟩ (.int .i64 sent)) := by
  obtain ⟨B4, h1, h2, hb⟩ := h
  have C := chg_set r w4 u (.int .i64 sent)
  refine next_set (B4.chg C (fun j hj => ?_)) h1 h2 (hb.trans (C.below B4.net.size (fun j hj => by omega))) (C.at T4 (by omega))
  subst hj
  exact ⟨_, _, _, W8, .inl rfl⟩
theorem play_is {w w5 : World} {k bm n : Nat} {v : Value} {a : Option Addr} {c : Nat} {L : List (Nat × List Int)} {sent : Int} (h : NextS w k bm v (.slice a n c) L sent w5) (hn : n = L.length) (hk : k ≤ 60) :
    Calls Try.prog 20 #[.pointer (some ⟨bm, 0, none⟩), .agg #[.slice a n c, .int .i64 sent]] w5 fun e w6 => e = .returned (.bool true) ∧ Hid (PlayS w (k + 1) bm w6) := by
  subst hn
  obtain ⟨B5, T5, h1, h2, hb⟩ := h
  refine (is_ok w.heap.size w5 bm v L sent B5.net a c B5.ref (fun x hx => by have := h2 x hx; omega) (by omega)).mono ?_
  rintro e w6 ⟨rfl, st⟩
  exact ⟨rfl, v, a, c, L, sent, B5.chg st (fun k hk => hk.elim), T5.still st, h1, h2, hb.trans (st.below B5.net.size (fun k hk => hk.elim))⟩
theorem still_of {w w' : World} (h : Below w.heap.size w w') : Still w w' := ⟨h.os, h.tape, h.output, h.size, fun k hk _ => h.block k hk⟩
/-- The old network, spoilt: whatever is answered. -/
theorem spoil_un {B : Nat} {w : World} {bm : Nat} {v : Value} {L : List (Nat × List Int)} {sent : Int} (H : Net B w bm v L sent) (hl : ∀ x ∈ L, x.2.length ≤ 300) (hL : L.length ≤ 100) :
    Calls Try.prog 12 #[.pointer (some ⟨bm, 0, none⟩), .int .i64 0, .int .i64 0, .int .u8 1] w fun e w' => (∃ r, e = .returned (.int .i64 r)) ∧ ∃ L2, Net B w' bm v L2 sent ∧ L2.length = L.length ∧ Chg (netS bm v) w w' := by
  by_cases h0 : 0 < L.length
  · obtain ⟨x, hx⟩ : ∃ x, L[0]? = some x := ⟨L[0], List.getElem?_eq_getElem h0⟩
    have hxl := hl x (List.mem_of_getElem? hx)
    by_cases h1 : 0 < x.2.length
    · refine (spoil_ok H 0 x hx (by omega) 0 h1 1 (by decide) (by omega)).mono ?_
      rintro e w' ⟨rfl, g1, g2⟩
      exact ⟨⟨_, rfl⟩, _, g1, by simp, g2⟩
    · refine (spoil_at H 0 x hx (by omega) 0 1 (.inr (.inl (by omega)))).mono ?_
      rintro e w' ⟨rfl, rfl⟩
      exact ⟨⟨_, rfl⟩, L, H.alloc' _, rfl, Chg.alloc _ _ _⟩
  · refine (spoil_bad H 0 (.inr (by omega)) 0 1).mono ?_
    rintro e w' ⟨rfl, rfl⟩
    exact ⟨⟨_, rfl⟩, L, H, rfl, Chg.refl _ _⟩
theorem send_un {B : Nat} {w : World} {bm : Nat} {v : Value} {L : List (Nat × List Int)} {sent : Int} (H : Net B w bm v L sent) (hL : L.length ≤ 100) {a : Option Addr} {n c : Nat} {bs : List Int} (hb : Src w (.slice a n c) bs) (hn : bs.length = n) (h3 : n ≤ 300) :
    Calls Try.prog 9 #[.pointer (some ⟨bm, 0, none⟩), .slice a n c] w fun e w' => (∃ r, e = .returned (.int .i64 r)) ∧ Chg (netS bm v) w w' := by
  refine (send_play B w bm v L sent H (by omega) a n c bs hn (by omega) hb.source).mono ?_
  rintro e w' ⟨rfl, v', p, h1, h2, h3, h4⟩
  exact ⟨⟨_, rfl⟩, h4⟩
/-- Gone on with a copy. -/
theorem kind7 {B : Nat} {wr w2 w4 : World} {bm : Nat} {v u : Value} {L : List (Nat × List Int)} {sent : Int} (H : Both B wr bm v u L sent) (C : CopyR wr L sent L.length w2) (C4 : Chg (netS bm v) w2 w4) :
    ∃ v' L', L'.map (·.2) = L.map (·.2) ∧ Both B w4 wr.heap.size v' u L' sent := by
  obtain ⟨v', L', N2, hm, b2⟩ := C
  rw [List.take_of_length_le (Nat.le_refl _)] at hm
  have st := still_of b2
  have N1 := H.net.still st
  have hbm : bm < wr.heap.size := (Array.getElem?_eq_some_iff.1 H.net.me).1
  have hvb : ∀ k, v.ownBlock = some k → k < wr.heap.size := fun k hk => (H.net.row.lt k hk).2
  have hlen : L'.length = L.length := by have := congrArg List.length hm; simpa using this
  have ns : ∀ k, wr.heap.size ≤ k → ¬ netS bm v k := by
    rintro k hk (rfl | h)
    · omega
    · have := hvb k h; omega
  have N4 : Net wr.heap.size w4 wr.heap.size v' L' sent := N2.chg C4 (ns _ (Nat.le_refl _)) (fun k hk => ns k (N2.row.lt k hk).1) (fun y hy => ns _ (N2.pk y hy).low)
  refine ⟨v', L', hm, N4.mono H.net.size, ?_, fun h0 k hk hv => ?_⟩
  · rw [hm]
    refine (H.ref.still st).chg2 C4 (fun k cur hk => ?_) (fun h0 k hk => ?_)
    · rintro (rfl | h)
      · rw [N1.me] at hk
        simp only [Option.some.injEq, Obj.cells.injEq] at hk
        exact absurd hk.2.1 (by decide)
      · exact own_ne N1.row hk (by decide) h
    · rintro (rfl | h)
      · obtain ⟨cur, hcur⟩ := (H.ref.still st).block h0 hk
        rw [N1.me] at hcur
        simp only [Option.some.injEq, Obj.cells.injEq] at hcur
        exact absurd hcur.2.1 (by decide)
      · exact H.apart (by simpa using h0) k hk h
  · have h1 := (N2.row.lt k hv).1
    obtain ⟨cur, hcur⟩ := H.ref.block (by simpa [← hlen] using h0) hk
    have := (Array.getElem?_eq_some_iff.1 hcur).1
    omega
set_option maxRecDepth 10000 in
set_option maxHeartbeats 4000000 in
theorem netPlays_some (w : World) (b off len cap : Nat) (S : Nat → CStep) (hS : ∀ j, j < len → StepAt w b (off + j * 5) (S j)) (hbig : len ≤ 9223372036854775807) :
    Calls Try.prog 5 #[.slice (some ⟨b, off, none⟩) len cap] w fun e w' => e = .returned (.bool true) ∧ Below w.heap.size w w' := by
  have hlight := light_some b off len cap 50 (fun j => (S j).a) (fun j => (S j).bs.length) (fun j => (S j).c) w hbig (fun j hj => (hS j hj).c4)
  go_enter Try.func5, Try.ntmps5
  go_wp2_with (go_at_call 99; skip)
  go_at_call 17
  refine hlight.mono ?_
  rintro e w1 ⟨⟨bo, rfl, hbo⟩, hw1⟩
  have hw1 := hw1.symm
  subst hw1
  cases bo with
  | false =>
    clear hlight hbo
    go_wp2_with (go_at_call 7; refine (Try.awake _).mono ?_; rintro e w' ⟨rfl, hb⟩)
    go_ret
    exact ⟨rfl, hb⟩
  | true =>
    obtain ⟨hl50, h300⟩ := hbo rfl
    clear hlight hbo
    go_wp2_with (go_at_call 8; refine (new_ok _).mono ?_; rintro e w' ⟨rfl, rfl⟩)
    have P0 : PlayS w 0 w.heap.size ((w.alloc (.cells #[.slice none 0 0, .int .i64 0] 50)).alloc (.cells #[.slice none 0 0, .int .i64 0] 41)) := by
      refine ⟨.slice none 0 0, none, 0, [], 0, ⟨(new_net w _ (Nat.le_refl _)).alloc' _, RefL.nil _, fun h => absurd h (by simp)⟩, ?_, Nat.le_refl _, (fun x hx => by cases hx), ?_⟩
      · have := Box1.new (w.alloc (.cells #[.slice none 0 0, .int .i64 0] 50)) (.slice none 0 0) 0
        simpa using this
      · exact Below.alloc (Below.alloc (Below.refl _ _) (Nat.le_refl _) _) (by simp) _
    generalize (w.alloc (.cells #[.slice none 0 0, .int .i64 0] 50)).alloc (.cells #[.slice none 0 0, .int .i64 0] 41) = w1 at *
    go_loopw [3, 5] (fun n i wr => ∃ k bm : Nat, k ≤ len ∧ i = .int .i64 k ∧ n = .pointer (some ⟨bm, 0, none⟩) ∧ Hid (PlayS w k bm wr)) (fun _ i _ => len - (intOf i).toNat)
    case atStart => exact ⟨0, w.heap.size, by omega, rfl, rfl, P0⟩
    case round =>
      clear P0
      obtain ⟨k, bm, hk, rfl, rfl, hF⟩ := hrel
      by_cases hlt : k < len
      · have hlt' : (k : Int) < (len : Int) := by omega
        obtain ⟨v, a, c, L, sent, B1, T1, hLk, hl, b1⟩ := hF.out
        clear hF
        have st := (hS k hlt).below b1 rfl
        have d0 := st.c0
        have d1 := st.c1
        have d2 := st.c2
        have d3 := st.c3
        have d4 := st.c4
        have src := st.src
        have h300k := h300 k hlt
        clear st
        by_cases h7 : (S k).K = 7
        · have q7 : ((S k).K == 7) = true := by simpa using h7
          have cT0 := T1.c0
          have cT1 := T1.c1
          go_wp2_with (go_at_call 99; skip)
          go_at_call 18
          refine (copy_ok B1.net (by omega) (fun x hx => by have := hl x hx; omega)).mono ?_
          rintro e w2 ⟨rfl, HCp⟩
          have b2 : Below wr.heap.size wr w2 := HCp.choose_spec.choose_spec.2.2
          have st2 := still_of b2
          go_wp2_with (go_at_call 99; skip)
          go_at_call 12
          refine (spoil_un (B1.net.still st2) hl (by omega)).mono ?_
          rintro e w3 ⟨⟨r3, rfl⟩, L3, N3, hL3, C3⟩
          have e4 := still_cell st2 d4
          have src2 := src.still st2
          have N2 := B1.net.still st2
          have ba : Below w.heap.size w w3 := (b1.trans ((st2.low B1.net.size).below)).trans (N2.below C3)
          have st3 := (hS k hlt).below ba rfl
          have g0 := st3.c0
          have g4 := st3.c4
          go_wp2_with (go_at_call 99; skip)
          go_at_call 9
          refine (send_un N3 (by omega) st3.src rfl h300k).mono ?_
          rintro e w4 ⟨⟨r4, rfl⟩, C4⟩
          have C24 : Chg (netS bm v) w2 w4 := C3.trans C4
          have T4 := (T1.still st2).netop N2 C24
          have bb : Below w.heap.size w w4 := ba.trans (N3.below C4)
          have st4 := (hS k hlt).below bb rfl
          obtain ⟨v', L', hm', B4⟩ := kind7 B1 HCp C24
          have hl' : ∀ x ∈ L', x.2.length ≤ 300 := by
            intro x hx
            have : x.2 ∈ L'.map (·.2) := List.mem_map.2 ⟨x, hx, rfl⟩
            rw [hm'] at this
            obtain ⟨z, hz, he⟩ := List.mem_map.1 this
            rw [← he]
            exact hl z hz
          have hlen' : L'.length = L.length := by have := congrArg List.length hm'; simpa using this
          obtain ⟨bm', hbm'⟩ : ∃ bm', bm' = wr.heap.size := ⟨_, rfl⟩
          rw [← hbm'] at B4 ⊢
          have hLk' : L'.length ≤ k := by omega
          have U4 : Box1 (w.heap.size + 1) w4 (.slice a L'.length c) sent := by rw [hlen']; exact T4
          have B5 : Both w.heap.size w4 bm' v' (.slice a L'.length c) L' sent := by rw [hlen']; exact B4
          rw [← hlen'] at cT0
          clear HCp C24 C3 C4 N2 N3 B1 T1 B4 T4 b1 b2 ba st2 st3 g0 g4 e4 src src2 d0 d1 d2 d3 d4 hl hLk hm' hL3 cT0 cT1 hbm' h7 q7
          have d0 := st4.c0
          have d1 := st4.c1
          have d2 := st4.c2
          have d3 := st4.c3
          have d4 := st4.c4
          have src := st4.src
          have cT0 := U4.c0
          have cT1 := U4.c1
          clear st4 hS h300 hlen'
          go_wp2_with (go_at_call 99; skip)
          have hcall : ∀ wi, Still w4 wi → Calls Try.prog 19 #[.pointer (some ⟨bm', 0, none⟩), .agg #[.slice a L'.length c, .int .i64 sent], .agg #[.int .i64 (S k).K, .int .i64 (S k).i, .int .i64 (S k).at_, .int .u8 (S k).by_, .slice (S k).a (S k).bs.length (S k).c]] wi fun e w' =>
              ∃ v'' a' n' c' L'' sent', n' = L''.length ∧ e = .returned (.tuple #[.agg #[.slice a' n' c', .int .i64 sent'], .bool true]) ∧ Hid (Both w.heap.size w' bm' v'' (.slice a' n' c') L'' sent' ∧ L''.length ≤ k + 1 ∧ (∀ x ∈ L'', x.2.length ≤ 300) ∧ Below w.heap.size w w') ∧ Box1 (w.heap.size + 1) w' (.slice a L'.length c) sent ∧ Low w.heap.size wi w' := by
            intro wi hst
            refine (step_any (B5.chg hst (fun k hk => hk.elim)) hl' (by omega) _ _ _ _ _ _ _ (src.still hst) h300k).mono ?_
            rintro e w' ⟨v'', a', c', L'', sent', rfl, g1, g2, g3, g4⟩
            exact ⟨v'', a', _, c', L'', sent', rfl, rfl, ⟨g1, by omega, g3, bb.trans ((hst.low B5.net.size).trans g4).below⟩, g4.box1 (U4.still hst), g4⟩
          have HC : Hid _ := hcall
          have hsz : w.heap.size + 1 < w4.heap.size := (Array.getElem?_eq_some_iff.1 U4).1
          have hbl : b < w4.heap.size := by
            apply Decidable.byContradiction
            intro hn
            have : w4.heap[b]? = none := Array.getElem?_eq_none (by omega)
            simp [World.cell?, this] at d0
          clear hcall B5 U4 hl' bb src
          go_region_law (go_simp; go_at_call 19; refine (HC.out _ ?_).mono ?_; (first | exact still_drew _ | exact (still_drew _).trans (Chg.alloc _ _ _)); rintro e w5 ⟨v'', a', n', c', L'', sent', hn', rfl, HB4, T4, LO⟩; have HN : Hid _ := hn'; clear hn'; have z0 := T4.c0; have z1 := T4.c1; have hs4 : w.heap.size + 1 < w5.heap.size := (Array.getElem?_eq_some_iff.1 T4).1; have f0 := T4.fr 0; have f1 := T4.fr 1; (first | (have W8 : Box1 w4.heap.size w5 (.slice none 0 0) 0 := LO.box w4.heap.size _ _ (by simp) (heap_alloc_new w4.drew _); have y0 := W8.c0; have y1 := W8.c1; have y2 := W8.fr 0; have y3 := W8.fr 1) | skip))
          all_goals go_wp2_with (go_at_call 99; skip)
          all_goals go_at_call 20
          all_goals (refine (play_is (k := k) (by first | exact next_B HB4.out T4 W8 (by omega) | exact next_A HB4.out T4 _) HN.out (by omega)).mono ?_; rintro e w6 ⟨rfl, HP⟩)
          all_goals clear z0 z1 f0 f1 hs4 HB4 T4 LO
          all_goals go_wp2
          all_goals go_roundw
          all_goals first
            | exact ⟨k + 1, bm', by omega, by go_num, rfl, HP⟩
            | (simp only [intOf]; omega)
        · clear hS h300
          have q7 : ((S k).K == 7) = false := by simpa using h7
          have cT0 := T1.c0
          have cT1 := T1.c1
          go_wp2_with (go_at_call 99; skip)
          have hcall : ∀ wi, Still wr wi → Calls Try.prog 19 #[.pointer (some ⟨bm, 0, none⟩), .agg #[.slice a L.length c, .int .i64 sent], .agg #[.int .i64 (S k).K, .int .i64 (S k).i, .int .i64 (S k).at_, .int .u8 (S k).by_, .slice (S k).a (S k).bs.length (S k).c]] wi fun e w' =>
              ∃ v' a' n' c' L' sent', n' = L'.length ∧ e = .returned (.tuple #[.agg #[.slice a' n' c', .int .i64 sent'], .bool true]) ∧ Hid (Both w.heap.size w' bm v' (.slice a' n' c') L' sent' ∧ L'.length ≤ k + 1 ∧ (∀ x ∈ L', x.2.length ≤ 300) ∧ Below w.heap.size w w') ∧ Box1 (w.heap.size + 1) w' (.slice a L.length c) sent ∧ Low w.heap.size wi w' := by
            intro wi hst
            refine (step_any (B1.chg hst (fun k hk => hk.elim)) hl (by omega) _ _ _ _ _ _ _ (src.still hst) h300k).mono ?_
            rintro e w' ⟨v', a', c', L', sent', rfl, g1, g2, g3, g4⟩
            exact ⟨v', a', _, c', L', sent', rfl, rfl, ⟨g1, by omega, g3, b1.trans ((hst.low B1.net.size).trans g4).below⟩, g4.box1 (T1.still hst), g4⟩
          have HC : Hid _ := hcall
          have hsz : w.heap.size + 1 < wr.heap.size := (Array.getElem?_eq_some_iff.1 T1).1
          have hbl : b < wr.heap.size := by
            apply Decidable.byContradiction
            intro hn
            have : wr.heap[b]? = none := Array.getElem?_eq_none (by omega)
            simp [World.cell?, this] at d0
          clear hcall B1 T1 hl b1 src
          go_region_law (go_simp; go_at_call 19; refine (HC.out _ ?_).mono ?_; (first | exact still_drew _ | exact (still_drew _).trans (Chg.alloc _ _ _)); rintro e w4 ⟨v', a', n', c', L', sent', hn', rfl, HB4, T4, LO⟩; have HN : Hid _ := hn'; clear hn'; have z0 := T4.c0; have z1 := T4.c1; have hs4 : w.heap.size + 1 < w4.heap.size := (Array.getElem?_eq_some_iff.1 T4).1; have f0 := T4.fr 0; have f1 := T4.fr 1; (first | (have W8 : Box1 wr.heap.size w4 (.slice none 0 0) 0 := LO.box wr.heap.size _ _ (by simp) (heap_alloc_new wr.drew _); have y0 := W8.c0; have y1 := W8.c1; have y2 := W8.fr 0; have y3 := W8.fr 1) | skip))
          all_goals go_wp2_with (go_at_call 99; skip)
          all_goals go_at_call 20
          all_goals (refine (play_is (k := k) (by first | exact next_B HB4.out T4 W8 (by omega) | exact next_A HB4.out T4 _) HN.out (by omega)).mono ?_; rintro e w6 ⟨rfl, HP⟩)
          all_goals clear z0 z1 f0 f1 hs4 HB4 T4 LO
          all_goals go_wp2
          all_goals go_roundw
          all_goals first
            | exact ⟨k + 1, bm, by omega, by go_num, rfl, HP⟩
            | (simp only [intOf]; omega)
      · have hge : k = len := by omega
        subst hge
        obtain ⟨v, a, c, L, sent, B1, T1, hLk, hl, b1⟩ := hF.out
        have hB := B1.net.size
        clear hF B1 T1 hS h300
        have hlt' : ¬ (k : Int) < (k : Int) := by omega
        go_wp2_with (go_at_call 7; refine (Try.awake _).mono ?_; rintro e w' ⟨rfl, hb⟩)
        go_ret
        exact ⟨rfl, b1.trans (hb.mono b1.size)⟩
theorem netPlays_zero (w : World) (a : Option Addr) (cap : Nat) : Calls Try.prog 5 #[.slice a 0 cap] w fun e w' => e = .returned (.bool true) ∧ Below w.heap.size w w' := by
  have hlight := light_none cap a 50 (fun _ => 0) w
  go_enter Try.func5, Try.ntmps5
  go_wp2_with (go_at_call 99; skip)
  go_at_call 17
  refine hlight.mono ?_
  rintro e w1 ⟨⟨bo, rfl, hbo⟩, hw1⟩
  have hw1 := hw1.symm
  subst hw1
  cases bo with
  | false =>
    clear hlight hbo
    go_wp2_with (go_at_call 7; refine (Try.awake _).mono ?_; rintro e w' ⟨rfl, hb⟩)
    go_ret
    exact ⟨rfl, hb⟩
  | true =>
    clear hlight hbo
    go_wp2_with (go_at_call 8; refine (new_ok _).mono ?_; rintro e w' ⟨rfl, rfl⟩)
    have b1 : Below w.heap.size w ((w.alloc (.cells #[.slice none 0 0, .int .i64 0] 50)).alloc (.cells #[.slice none 0 0, .int .i64 0] 41)) := Below.alloc (Below.alloc (Below.refl _ _) (Nat.le_refl _) _) (by simp) _
    generalize (w.alloc (.cells #[.slice none 0 0, .int .i64 0] 50)).alloc (.cells #[.slice none 0 0, .int .i64 0] 41) = w1 at *
    go_loop [5] (fun i => i = .int .i64 0) (fun _ => 0)
    case atStart => exact rfl
    case round =>
      subst hrel
      go_wp2_with (go_at_call 7; refine (Try.awake _).mono ?_; rintro e w' ⟨rfl, hb⟩)
      go_ret
      exact ⟨rfl, b1.trans (hb.mono b1.size)⟩
end Go.Proofs.Ytjffmdfkodkidaa

