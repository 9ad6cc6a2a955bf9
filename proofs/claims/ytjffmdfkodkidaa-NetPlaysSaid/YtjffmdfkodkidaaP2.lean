/- An evaluator over symbolic values, proved sound over the model's machine, and its use at this seat; no condition. Part 2. -/
import Derived.LoopTactic
import Derived.BigQuiet
import Derived.Deep.QuietTactic
import Derived.Laws.ResultCell
import Derived.Test.YtjffmdfkodkidaaP1
set_option linter.unusedSimpArgs false
set_option linter.unusedVariables false
set_option linter.unusedSectionVars false
set_option linter.deprecated false
namespace Go.Proofs.Ytjffmdfkodkidaa
open Go.RowKit
set_option linter.unusedVariables false
/-- A byte that is spoilt. -/
def flip (bs : List Int) (at_ : Nat) (by_ : Int) : List Int := bs.set at_ (bits .xor .u8 (bs.getD at_ 0) by_)
theorem length_flip (bs : List Int) (at_ : Nat) (by_ : Int) : (flip bs at_ by_).length = bs.length := by simp [flip]
theorem spoil_state {B : Nat} {w : World} {bm g cap i : Nat} {L : List (Nat × List Int)} {sent : Int} (H : Net B w bm (.slice (some ⟨g, 0, none⟩) L.length cap) L sent) (hi : i < L.length) (bs : List Int) :
    Net B ((w.setCell ⟨g, i, none⟩ (hdr w.heap.size bs.length)).alloc (.cells (bytesV bs).toArray 5)) bm (.slice (some ⟨g, 0, none⟩) L.length cap) (L.set i (w.heap.size, bs)) sent ∧
      Chg (netS bm (.slice (some ⟨g, 0, none⟩) L.length cap)) w ((w.setCell ⟨g, i, none⟩ (hdr w.heap.size bs.length)).alloc (.cells (bytesV bs).toArray 5)) := by
  have hne : bm ≠ g := fun e => H.nm (by simp [Value.ownBlock, e])
  have hsz : (w.setCell ⟨g, i, none⟩ (hdr w.heap.size bs.length)).heap.size = w.heap.size := by simp [World.setCell]
  have hold : ∀ k, k < w.heap.size → k ≠ g → ((w.setCell ⟨g, i, none⟩ (hdr w.heap.size bs.length)).alloc (.cells (bytesV bs).toArray 5)).heap[k]? = w.heap[k]? := by
    intro k hk hg
    rw [heap_alloc_old _ _ (by rw [hsz]; exact hk), Below.heap_setCell _ _ _ _ hg]
  have hnew : ((w.setCell ⟨g, i, none⟩ (hdr w.heap.size bs.length)).alloc (.cells (bytesV bs).toArray 5)).heap[w.heap.size]? = some (.cells (bytesV bs).toArray 5 (0, 0)) := by
    have := heap_alloc_new (w.setCell ⟨g, i, none⟩ (hdr w.heap.size bs.length)) (.cells (bytesV bs).toArray 5)
    rwa [hsz] at this
  rcases H.row.2 with ⟨h0, _⟩ | ⟨g', cap', cur, hv, hB, hg, hn, hmax, hcs, ht⟩
  · cases h0
  · simp only [Value.slice.injEq, Option.some.injEq, Addr.mk.injEq, and_true, true_and] at hv
    obtain ⟨rfl, rfl⟩ := hv
    simp only [Nat.mul_one] at hcs ht
    have hlt := (Array.getElem?_eq_some_iff.1 hg).1
    refine ⟨⟨H.base, ?_, ⟨by simp, .inr ⟨g, cap, cur.setIfInBounds i (hdr w.heap.size bs.length), by simp, hB, ?_, by simpa using hn, hmax, by simpa using hcs, ?_⟩⟩, ?_, ?_⟩, ⟨rfl, rfl, rfl, by simp [World.setCell], ?_⟩⟩
    · rw [hold bm (Array.getElem?_eq_some_iff.1 H.me).1 hne, H.me]
    · rw [heap_alloc_old _ _ (by rw [hsz]; exact hlt), setCell_eq_setRow w g i cur 22 _ _ hg]
      exact setRow_heap w g _ _ 22 _ hg
    · simp only [List.length_set, Nat.mul_one, Array.toList_setIfInBounds, List.map_set]
      rw [List.take_set, ht]
    · intro x hx
      rcases List.mem_or_eq_of_mem_set hx with hx | rfl
      · refine ⟨(H.pk x hx).low, ?_⟩
        rw [hold _ (Array.getElem?_eq_some_iff.1 (H.pk x hx).at_).1 (fun e => H.nl hx (by simp [Value.ownBlock, e])), (H.pk x hx).at_]
      · exact ⟨H.size, hnew⟩
    · have := H.size
      simp [World.setCell]
      omega
    · intro k hk hs
      exact hold k hk (fun e => hs (.inr (by simp [Value.ownBlock, e])))
section
variable {B : Nat} {w : World} {bm : Nat} {v : Value} {L : List (Nat × List Int)} {sent : Int}
theorem spoil_ok (H : Net B w bm v L sent) (i : Nat) (x : Nat × List Int) (hx : L[i]? = some x) (hl : x.2.length ≤ 281474976710656) (at_ : Nat) (hat : at_ < x.2.length) (by_ : Int) (hby : by_ ≠ 0) (hmx : L.length ≤ 9223372036854775806) :
    Calls Try.prog 12 #[.pointer (some ⟨bm, 0, none⟩), .int .i64 i, .int .i64 at_, .int .u8 by_] w fun e w' => e = .returned (.int .i64 0) ∧ Net B w' bm v (L.set i (w.heap.size, flip x.2 at_ by_)) sent ∧ Chg (netS bm v) w w' := by
  have hi : i < L.length := (List.getElem?_eq_some_iff.1 hx).1
  have h1 := look_ok H i x hx hl
  obtain ⟨g, cap, rfl, hc1, hc2⟩ := at_ok H hx
  have hlow := H.row.lt g rfl
  have hne : g ≠ bm := fun e => H.nm (by simp [Value.ownBlock, e])
  have hbm : bm < w.heap.size := (Array.getElem?_eq_some_iff.1 H.me).1
  have hc0 : w.cell? ⟨bm, 0, none⟩ = some (.slice (some ⟨g, 0, none⟩) L.length cap) := by simp [World.cell?, H.me]
  have hb0 : (w.alloc (.cells (bytesV x.2).toArray 5)).cell? ⟨w.heap.size, at_, none⟩ = some (.int .u8 (x.2.getD at_ 0)) := by
    rw [World.cell?_alloc_at _ _ _ _ rfl]
    simp [hat]
  have hb1 : (w.alloc (.cells (bytesV x.2).toArray 5)).frozen? ⟨w.heap.size, at_, none⟩ = false := by
    have := heap_alloc_new w (.cells (bytesV x.2).toArray 5)
    unfold World.frozen?
    rw [this]
    simp
  have hn0 : ¬ ((at_ : Int) < 0) := by omega
  have hn1 : ¬ ((x.2.length : Int) ≤ (at_ : Int)) := by omega
  have hn2 : (by_ == 0) = false := by simpa using hby
  have hn3 : (i : Int) < (L.length : Int) := by omega
  have hn4 : ¬ ((i : Int) < 0) := by omega
  have hn5 : (at_ : Int) < (x.2.length : Int) := by omega
  have hd0 : decide ((at_ : Int) < 0) = false := by simp
  have hd1 : ¬ x.2.length ≤ at_ := by omega
  have hfl : (bytesV x.2).set at_ (Value.int IntKind.u8 (bits BinOp.xor IntKind.u8 x.2[at_] by_)) = bytesV (flip x.2 at_ by_) := by
    simp [flip, List.map_set, hat]
  have hst := spoil_state H hi (flip x.2 at_ by_)
  rw [length_flip] at hst
  clear hx H
  go_enter Try.func12, Try.ntmps12
  go_wp2_with (go_at_call 11; refine h1.mono ?_; rintro e w' ⟨rfl, rfl⟩)
  all_goals first | omega | skip
  go_ret
  exact ⟨rfl, hst⟩
theorem spoil_bad (H : Net B w bm v L sent) (i : Int) (hi : i < 0 ∨ L.length ≤ i) (at_ by_ : Int) : Calls Try.prog 12 #[.pointer (some ⟨bm, 0, none⟩), .int .i64 i, .int .i64 at_, .int .u8 by_] w fun e w' => e = .returned (.int .i64 4) ∧ w' = w := by
  have h1 := look_bad H i hi
  clear hi
  go_enter Try.func12, Try.ntmps12
  go_wp2_with (go_at_call 11; refine h1.mono ?_; rintro e w' ⟨rfl, rfl⟩)
  go_ret
  exact ⟨rfl, rfl⟩
end
end Go.Proofs.Ytjffmdfkodkidaa

namespace Go.Proofs.Ytjffmdfkodkidaa
open Go.RowKit
set_option linter.unusedVariables false
def SameR (w : World) (ans : Bool) (e : Ending) (w' : World) : Prop := e = .returned (.bool ans) ∧ ∃ m, w' = w.drewN m
theorem same_len (w : World) (a a2 : Option Addr) (n c n2 c2 : Nat) (h : n ≠ n2) : Calls Try.prog 14 #[.slice a n c, .slice a2 n2 c2] w (SameR w false) := by
  have h1 : ((n : Int) == (n2 : Int)) = false := by simp; omega
  go_enter Try.func14, Try.ntmps14
  go_wp2
  go_ret
  exact ⟨rfl, 0, rfl⟩
theorem same_nil (w : World) (a a2 : Option Addr) (c c2 : Nat) : Calls Try.prog 14 #[.slice a 0 c, .slice a2 0 c2] w (SameR w true) := by
  go_enter Try.func14, Try.ntmps14
  go_wp2
  go_loop [5] (fun i => i = .int .i64 0) (fun _ => 0)
  case atStart => exact rfl
  case round =>
    subst hrel
    go_wp2
    go_ret
    exact ⟨rfl, 0, rfl⟩
theorem take_succ_eq {xs ys : List Int} {k : Nat} (h : xs.take k = ys.take k) (h1 : k < xs.length) (h2 : k < ys.length) (he : xs.getD k 0 = ys.getD k 0) : xs.take (k + 1) = ys.take (k + 1) := by
  rw [List.take_add_one, List.take_add_one, h]
  simp [List.getD, h1, h2] at he
  simp [h1, h2, he]
theorem same_some (w : World) (b1 o1 c b2 o2 c2 : Nat) (xs ys : List Int) (hl : xs.length = ys.length) (hbig : xs.length ≤ 9223372036854775807)
    (hx : ∀ k, k < xs.length → w.cell? ⟨b1, o1 + k, none⟩ = some (.int .u8 (xs.getD k 0))) (hy : ∀ k, k < ys.length → w.cell? ⟨b2, o2 + k, none⟩ = some (.int .u8 (ys.getD k 0))) :
    Calls Try.prog 14 #[.slice (some ⟨b1, o1, none⟩) xs.length c, .slice (some ⟨b2, o2, none⟩) ys.length c2] w (SameR w (decide (xs = ys))) := by
  obtain ⟨n, hn⟩ : ∃ n, n = xs.length := ⟨_, rfl⟩
  have hn2 : ys.length = n := by omega
  rw [hn2, ← hn]
  rw [← hn] at hx hbig
  rw [hn2] at hy
  have HN : Hid (n = xs.length) := hn
  have HN2 : Hid (ys.length = n) := hn2
  clear hn hn2 hl
  go_enter Try.func14, Try.ntmps14
  go_wp2
  go_loopw [5] (fun i wr => ∃ k m : Nat, k ≤ n ∧ i = .int .i64 k ∧ wr = w.drewN m ∧ Hid (xs.take k = ys.take k)) (fun i _ => n - (intOf i).toNat)
  case atStart => exact ⟨0, 0, Nat.zero_le _, rfl, rfl, (by simp : xs.take 0 = ys.take 0)⟩
  case round =>
    obtain ⟨k, m, hk, rfl, rfl, htk⟩ := hrel
    by_cases hkn : k < n
    · have hx1 : (w.drewN m).cell? ⟨b1, o1 + k, none⟩ = some (.int .u8 (xs.getD k 0)) := hx k hkn
      have hy1 : (w.drewN m).cell? ⟨b2, o2 + k, none⟩ = some (.int .u8 (ys.getD k 0)) := hy k hkn
      have hx2 : w.cell? ⟨b1, o1 + k, none⟩ = some (.int .u8 (xs.getD k 0)) := hx k hkn
      have hy2 : w.cell? ⟨b2, o2 + k, none⟩ = some (.int .u8 (ys.getD k 0)) := hy k hkn
      obtain ⟨xk, hxk⟩ : ∃ xk, xk = xs.getD k 0 := ⟨_, rfl⟩
      obtain ⟨yk, hyk⟩ : ∃ yk, yk = ys.getD k 0 := ⟨_, rfl⟩
      rw [← hxk] at hx1 hx2
      rw [← hyk] at hy1 hy2
      have HX : Hid (xk = xs.getD k 0) := hxk
      have HY : Hid (yk = ys.getD k 0) := hyk
      clear hxk hyk
      have hkn' : (k : Int) < (n : Int) := by omega
      clear hx hy
      go_wp2
      go_quiet (fail)
      go_wp2
      · have hne : (xk != yk) = true := by assumption
        go_ret
        refine ⟨?_, m + nq, by simp⟩
        have : xs ≠ ys := by
          intro e
          have h1 := HX.out
          rw [e, ← HY.out] at h1
          rw [h1] at hne
          simp at hne
        rw [decide_eq_false this]
        rfl
      · have heq : (xk != yk) = false := by assumption
        go_roundw
        case rel =>
          refine ⟨k + 1, m + nq, by omega, by go_num, rfl, ?_⟩
          have hn1 := HN.out
          have hn2 := HN2.out
          exact take_succ_eq htk.out (by omega) (by omega) (by rw [← HX.out, ← HY.out]; simpa using heq)
        case measure => simp only [intOf]; omega
    · have hge : k = n := by omega
      have hkn' : ¬ (k : Int) < (n : Int) := by omega
      have hfin : decide (xs = ys) = true := by
        have h := htk.out
        have hn1 := HN.out
        have hn2 := HN2.out
        rw [List.take_of_length_le (by omega), List.take_of_length_le (by omega)] at h
        exact decide_eq_true h
      clear hx hy htk hge
      go_wp2
      go_ret
      exact ⟨rfl, m, rfl⟩
/-- What a slice of bytes reads as. -/
def Reads (w : World) (v : Value) (bs : List Int) : Prop := ∃ a c, v = .slice a bs.length c ∧ (0 < bs.length → ∃ b o, a = some ⟨b, o, none⟩ ∧ ∀ k, k < bs.length → w.cell? ⟨b, o + k, none⟩ = some (.int .u8 (bs.getD k 0)))
theorem same_ok (w : World) (v u : Value) (xs ys : List Int) (hv : Reads w v xs) (hu : Reads w u ys) (hbig : xs.length ≤ 9223372036854775807) : Calls Try.prog 14 #[v, u] w (SameR w (decide (xs = ys))) := by
  obtain ⟨a, c, rfl, ha⟩ := hv
  obtain ⟨a2, c2, rfl, ha2⟩ := hu
  by_cases hl : xs.length = ys.length
  · by_cases h0 : xs.length = 0
    · rw [show xs = [] from List.eq_nil_of_length_eq_zero h0, show ys = [] from List.eq_nil_of_length_eq_zero (by omega)]
      exact same_nil w a a2 c c2
    · obtain ⟨b1, o1, rfl, h1⟩ := ha (by omega)
      obtain ⟨b2, o2, rfl, h2⟩ := ha2 (by omega)
      exact same_some w b1 o1 c b2 o2 c2 xs ys hl hbig h1 h2
  · rw [decide_eq_false (fun e => hl (by rw [e]))]
    exact same_len w a a2 _ c _ c2 hl
theorem Reads.block {w : World} {p : Nat} {bs : List Int} (h : w.heap[p]? = some (.cells (bytesV bs).toArray 5 (0, 0))) (n : Nat) (hn : n = bs.length) : Reads w (.slice (some ⟨p, 0, none⟩) n n) bs := by
  subst hn
  refine ⟨_, _, rfl, fun _ => ⟨p, 0, rfl, fun k hk => ?_⟩⟩
  simp [World.cell?, h, hk]
end Go.Proofs.Ytjffmdfkodkidaa

namespace Go.Proofs.Ytjffmdfkodkidaa
open Go.RowKit
set_option linter.unusedVariables false

theorem Net.alloc {B : Nat} {w : World} {bm : Nat} {v : Value} {L : List (Nat × List Int)} {sent : Int} (H : Net B w bm v L sent) (o : Obj) : Net B (w.alloc o) bm v L sent := by
  have hold : ∀ k x, w.heap[k]? = some x → (w.alloc o).heap[k]? = some x := fun k x h => by
    rw [heap_alloc_old w o (Array.getElem?_eq_some_iff.1 h).1, h]
  exact ⟨H.base, hold _ _ H.me, World.ownsRow.alloc H.row o, fun x hx => ⟨(H.pk x hx).low, hold _ _ (H.pk x hx).at_⟩, by have := H.size; simp; omega⟩
theorem zeroCells (n : Nat) : madeCells #[.int .u8 0] (n * 1) = (List.replicate n (Value.int .u8 0)).toArray := by
  simp only [madeCells, Nat.mul_one]
  apply Array.ext_getElem?
  intro i
  by_cases h : i < n
  · simp [h, Nat.mod_one]
  · simp [h]
def bigCells (n : Nat) : Array Value := (bytesV (List.replicate n 0)).toArray
theorem big_made (n : Nat) : madeCells #[.int .u8 0] (n * Try.t5.size) = bigCells n := by
  rw [size5, zeroCells]
  simp [bigCells, List.map_replicate]
theorem make_big (n : Nat) (hn : n ≤ 2000000) (w : World) : (Instr.makeSlice 22 (.int .i64 (n : Int)) (.int .i64 (n : Int))).run Try.prog w = .ok (.slice (some ⟨w.heap.size, 0, none⟩) n n) (w.alloc (.cells (bigCells n) 5)) := by
  rw [run_make (P := Try.prog) w 22 5 Try.t5 (.int .u8 0) Try.underlying22 (by kernel_rfl) (by kernel_rfl) .i64 .i64 (n : Int) (n : Int) (by omega) (by omega) (by rw [bytes5]; omega) (by omega)]
  simp only [Int.toNat_natCast]
  rw [show (Value.int IntKind.u8 0).cells = #[.int .u8 0] from rfl, big_made]
theorem make_long (w : World) : (Instr.makeSlice 22 (.int .i64 1048593) (.int .i64 1048593)).run Try.prog w = .ok (.slice (some ⟨w.heap.size, 0, none⟩) 1048593 1048593) (w.alloc (.cells (bigCells 1048593) 5)) := make_big 1048593 (by omega) w
theorem make_fits (w : World) : (Instr.makeSlice 22 (.int .i64 1048592) (.int .i64 1048592)).run Try.prog w = .ok (.slice (some ⟨w.heap.size, 0, none⟩) 1048592 1048592) (w.alloc (.cells (bigCells 1048592) 5)) := make_big 1048592 (by omega) w
/-- Only what was made since may have changed. -/
theorem Chg.below {S : Nat → Prop} {w w' : World} (h : Chg S w w') {B : Nat} (hB : B ≤ w.heap.size) (hS : ∀ k, S k → B ≤ k) : Below B w w' :=
  ⟨h.os, h.tape, h.output, h.size, fun k hk => h.block k (by omega) (fun e => by have := hS k e; omega)⟩

theorem new_net' (w : World) (B bm : Nat) (hB : B ≤ w.heap.size) (hb : bm = w.heap.size) : Net B (w.alloc (.cells #[.slice none 0 0, .int .i64 0] 50)) bm (.slice none 0 0) [] 0 := by
  subst hb
  exact new_net w B hB
set_option maxHeartbeats 4000000 in
theorem netNils_walk (k i at_ by_ : Int) (a : Option Addr) (n c : Nat) (w : World) :
    Calls Try.prog 6 #[.agg #[.int .i64 k, .int .i64 i, .int .i64 at_, .int .u8 by_, .slice a n c]] w fun e w' => e = .returned (.bool true) ∧ Below w.heap.size w w' := by
  have hml := make_long
  have hmf := make_fits
  obtain ⟨zs, hzl, hzb⟩ : ∃ zs : List Int, zs.length = 1048592 ∧ bigCells 1048592 = (bytesV zs).toArray := ⟨_, List.length_replicate, rfl⟩
  go_enter Try.func6, Try.ntmps6
  go_wp2_with (go_at_call 17; refine (light_some (w.heap.size + 1) 0 1 1 1 (fun _ => a) (fun _ => n) (fun _ => c) _ (by omega) ?_).mono ?_)
  · intro j hj
    obtain rfl : j = 0 := by omega
    exact World.cell?_alloc_at _ _ _ _ (by simp)
  · rintro e w' ⟨⟨bo, rfl, hbo⟩, rfl⟩
    clear hbo
    cases bo
    · go_wp2_with (go_at_call 7; refine (Try.awake _).mono ?_; rintro e w' ⟨rfl, hw⟩)
      go_ret
      exact ⟨rfl, (Below.alloc (Below.alloc (Below.refl _ _) (Nat.le_refl _) _) (by simp) _).trans (hw.mono (by simp; omega))⟩
    · have hp : w.heap.size < (w.alloc (.cells #[.int .i64 k, .int .i64 i, .int .i64 at_, .int .u8 by_, .slice a n c] 43)).heap.size := by simp
      go_wp2_with (go_at_call 21; refine (clear_nil _).mono ?_; rintro e w' ⟨rfl, rfl⟩)
      go_wp2_with (go_at_call 13; refine (take_nil _ _).mono ?_; rintro e w' ⟨rfl, rfl⟩)
      go_wp2_with (go_at_call 11; refine (look_nil _ _).mono ?_; rintro e w' ⟨rfl, rfl⟩)
      go_wp2_with (go_at_call 8; refine (new_ok _).mono ?_; rintro e w' ⟨rfl, rfl⟩)
      go_wp2_with (go_at_call 9; refine (send_nil _ _ _ _).mono ?_; rintro e w' ⟨rfl, rfl⟩)
      go_wp2_with (go_at_call 22; refine (drop_nil _ _).mono ?_; rintro e w' ⟨rfl, rfl⟩)
      go_wp2_with (go_at_call 10; refine (double_nil _ _).mono ?_; rintro e w' ⟨rfl, rfl⟩)
      go_wp2_with (go_at_call 12; refine (spoil_nil _ _ _ _).mono ?_; rintro e w' ⟨rfl, rfl⟩)
      go_wp2_with (go_at_call 15; refine (len_nil _).mono ?_; rintro e w' ⟨rfl, rfl⟩)
      go_wp2_with (go_at_call 16; refine (sent_nil _).mono ?_; rintro e w' ⟨rfl, rfl⟩)
      go_wp2_with (go_at_call 18; refine (copy_nil _).mono ?_; rintro e w' ⟨rfl, rfl⟩)
      go_wp2_with (go_at_call 9; refine (send_long _ _ _ _ _ (by decide)).mono ?_; rintro e w' ⟨rfl, rfl⟩)
      go_at_call 9
      refine (send_ok w.heap.size _ (w.heap.size + 1 + 1) (.slice none 0 0) [] 0 ?_ (by decide) (some ⟨w.heap.size + 1 + 1 + 1 + 1, 0, none⟩) 1048592 1048592 zs hzl (by decide) (fun _ => ⟨_, rfl, ?_⟩)).mono ?_
      · exact Net.alloc (Net.alloc (new_net' _ w.heap.size _ (by simp; omega) (by simp)) _) _
      · intro j v hj
        rw [addr_add, World.cell?_alloc_at _ _ _ _ (by simp)]
        simpa using hj
      · rintro e w' ⟨rfl, v', p, hN, hC⟩
        have hlow : Below w.heap.size w w' := by
          refine Below.trans ?_ (hC.below (by simp; omega) (fun k hk => ?_))
          · exact Below.alloc (Below.alloc (Below.alloc (Below.alloc (Below.alloc (Below.refl _ _) (Nat.le_refl _) _) (by simp) _) (by simp; omega) _) (by simp; omega) _) (by simp; omega) _
          · rcases hk with rfl | hk
            · omega
            · cases hk
        clear hN hC
        go_wp2_with (go_at_call 7; refine (Try.awake _).mono ?_; rintro e w2 ⟨rfl, hw⟩)
        go_ret
        exact ⟨rfl, hlow.trans (hw.mono hlow.size)⟩
end Go.Proofs.Ytjffmdfkodkidaa

namespace Go.Proofs.Ytjffmdfkodkidaa
open Go.RowKit
set_option linter.unusedVariables false
/-- A block of bytes. -/
def Row (w : World) (p : Nat) (bs : List Int) : Prop := ∃ cur, w.heap[p]? = some (.cells cur 5 (0, 0)) ∧ bs.length ≤ cur.size ∧ cur.toList.take bs.length = bytesV bs
theorem Row.block {w : World} {p : Nat} {bs : List Int} (h : w.heap[p]? = some (.cells (bytesV bs).toArray 5 (0, 0))) : Row w p bs := ⟨_, h, by simp, List.take_of_length_le (by simp)⟩
theorem Row.lt {w : World} {p : Nat} {bs : List Int} (h : Row w p bs) : p < w.heap.size := by
  obtain ⟨cur, h1, _⟩ := h
  exact (Array.getElem?_eq_some_iff.1 h1).1
theorem Row.cell {w : World} {p : Nat} {bs : List Int} (h : Row w p bs) {k : Nat} (hk : k < bs.length) : w.cell? ⟨p, k, none⟩ = some (.int .u8 (bs.getD k 0)) := by
  obtain ⟨cur, h1, h2, h3⟩ := h
  have h4 : (cur.toList.take bs.length)[k]? = (bytesV bs)[k]? := by rw [h3]
  rw [List.getElem?_take_of_lt hk] at h4
  simp only [Array.getElem?_toList] at h4
  simp only [World.cell?, h1, h4]
  simp [hk]
theorem Row.thaw {w : World} {p : Nat} {bs : List Int} (h : Row w p bs) (k : Nat) : w.frozen? ⟨p, k, none⟩ = false := by
  obtain ⟨cur, h1, _⟩ := h
  simp [World.frozen?, h1]
theorem Row.reads {w : World} {p : Nat} {bs : List Int} (h : Row w p bs) (c : Nat) : Reads w (.slice (some ⟨p, 0, none⟩) bs.length c) bs :=
  ⟨_, _, rfl, fun _ => ⟨p, 0, rfl, fun k hk => by rw [Nat.zero_add]; exact h.cell hk⟩⟩
theorem Row.source {w : World} {p : Nat} {bs : List Int} (h : Row w p bs) : ∀ j u, (bytesV bs)[j]? = some u → w.cell? ((⟨p, 0, none⟩ : Addr).add j) = some u := by
  intro j u hj
  have hlt : j < bs.length := by simpa using (List.getElem?_eq_some_iff.1 hj).1
  rw [addr_add, h.cell hlt, ← hj]
  simp [hlt]
theorem Row.chg {S : Nat → Prop} {w w' : World} {p : Nat} {bs : List Int} (h : Row w p bs) (hc : Chg S w w') (hs : ¬ S p) : Row w' p bs := by
  obtain ⟨cur, h1, h2⟩ := h
  exact ⟨cur, hc.at h1 hs, h2⟩
theorem Row.free {B : Nat} {w : World} {bm : Nat} {v : Value} {L : List (Nat × List Int)} {sent : Int} (H : Net B w bm v L sent) {p : Nat} {bs : List Int} (h : Row w p bs) : ¬ netS bm v p := by
  obtain ⟨cur, h1, _⟩ := h
  rintro (rfl | hv)
  · rw [H.me] at h1
    simp only [Option.some.injEq, Obj.cells.injEq] at h1
    exact absurd h1.2.1 (by decide)
  · exact own_ne H.row h1 (by decide) hv
theorem Row.set {w : World} {p : Nat} {bs : List Int} (h : Row w p bs) {k : Nat} (hk : k < bs.length) (by_ : Int) : Row (w.setCell ⟨p, k, none⟩ (.int .u8 (bits .xor .u8 (bs.getD k 0) by_))) p (flip bs k by_) := by
  obtain ⟨cur, h1, h2, h3⟩ := h
  refine ⟨cur.setIfInBounds k (.int .u8 (bits .xor .u8 (bs.getD k 0) by_)), ?_, by simpa [length_flip] using h2, ?_⟩
  · rw [setCell_eq_setRow w p k cur 5 _ _ h1]
    exact setRow_heap w p _ _ 5 _ h1
  · rw [length_flip, Array.toList_setIfInBounds, List.take_set, h3]
    simp [flip, List.map_set]
theorem Chg.set (w : World) (p k : Nat) (x : Value) : Chg (fun j => j = p) w (w.setCell ⟨p, k, none⟩ x) :=
  ⟨rfl, rfl, rfl, by simp [World.setCell], fun j _ hj => Below.heap_setCell _ _ _ _ hj⟩
/-- The network is untouched by what is none of its own. -/
theorem Net.chg {B : Nat} {w w' : World} {bm : Nat} {v : Value} {L : List (Nat × List Int)} {sent : Int} (H : Net B w bm v L sent) {S : Nat → Prop} (hc : Chg S w w') (h1 : ¬ S bm) (h2 : ∀ k, v.ownBlock = some k → ¬ S k) (h3 : ∀ y ∈ L, ¬ S y.1) : Net B w' bm v L sent := by
  refine ⟨H.base, hc.at H.me h1, ⟨H.row.1, ?_⟩, fun y hy => ⟨(H.pk y hy).low, hc.at (H.pk y hy).at_ (h3 y hy)⟩, by have := H.size; have := hc.size; omega⟩
  rcases H.row.2 with h | ⟨g, cap, cur, hv, hb, hg, hr⟩
  · exact .inl h
  · exact .inr ⟨g, cap, cur, hv, hb, hc.at hg (h2 g (by simp [hv, Value.ownBlock])), hr⟩
theorem Net.setRow {B : Nat} {w : World} {bm : Nat} {v : Value} {L : List (Nat × List Int)} {sent : Int} (H : Net B w bm v L sent) {p : Nat} {bs : List Int} (hp : Row w p bs) (hL : ∀ y ∈ L, y.1 ≠ p) (k : Nat) (x : Value) : Net B (w.setCell ⟨p, k, none⟩ x) bm v L sent :=
  H.chg (Chg.set w p k x) (fun e => hp.free H (.inl e.symm)) (fun j hj e => hp.free H (.inr (by rw [← e]; exact hj))) hL
theorem Net.below {B : Nat} {w w' : World} {bm : Nat} {v : Value} {L : List (Nat × List Int)} {sent : Int} (H : Net B w bm v L sent) (hc : Chg (netS bm v) w w') : Below B w w' :=
  hc.below H.size (fun k hk => by
    rcases hk with rfl | hk
    · exact H.base
    · exact (H.row.lt k hk).1)
theorem Reads.below {w w' : World} {v : Value} {bs : List Int} (h : Reads w v bs) {B : Nat} (hb : Below B w w') (hB : w.heap.size ≤ B) : Reads w' v bs := by
  obtain ⟨a, c, rfl, ha⟩ := h
  refine ⟨a, c, rfl, fun h0 => ?_⟩
  obtain ⟨b, o, rfl, hc⟩ := ha h0
  refine ⟨b, o, rfl, fun k hk => ?_⟩
  have h1 := hc k hk
  have hlt : b < w.heap.size := by
    apply Decidable.byContradiction
    intro hn
    have : w.heap[b]? = none := Array.getElem?_eq_none (by omega)
    simp [World.cell?, this] at h1
  rw [← h1]
  simp only [World.cell?, hb.block b (by omega)]
theorem Reads.source {w : World} {a : Option Addr} {n c : Nat} {bs : List Int} (h : Reads w (.slice a n c) bs) (hn : 0 < n) : bs.length = n ∧ ∃ ad, a = some ad ∧ ∀ j u, (bytesV bs)[j]? = some u → w.cell? (ad.add j) = some u := by
  obtain ⟨a', c', he, ha⟩ := h
  simp only [Value.slice.injEq] at he
  obtain ⟨rfl, rfl, rfl⟩ := he
  obtain ⟨b, o, rfl, hc⟩ := ha hn
  refine ⟨rfl, _, rfl, fun j u hj => ?_⟩
  have hlt : j < bs.length := by simpa using (List.getElem?_eq_some_iff.1 hj).1
  have e : (⟨b, o, none⟩ : Addr).add j = ⟨b, o + j, none⟩ := by unfold Addr.add; split <;> simp_all
  rw [e, hc j hlt, ← hj]
  simp [hlt]
section
variable {B : Nat} {w : World} {bm : Nat} {v : Value} {L : List (Nat × List Int)} {sent : Int}
/-- A look, with the world behind it told by what it holds. -/
theorem look_st (H : Net B w bm v L sent) (i : Nat) (x : Nat × List Int) (hx : L[i]? = some x) (hl : x.2.length ≤ 1048592) : Calls Try.prog 11 #[.pointer (some ⟨bm, 0, none⟩), .int .i64 i] w fun e w' =>
    ∃ p, e = .returned (.tuple #[hdr p x.2.length, .int .i64 0]) ∧ w.heap.size ≤ p ∧ Row w' p x.2 ∧ Net B w' bm v L sent ∧ Chg (fun _ => False) w w' :=
  (look_ok H i x hx (by omega)).mono fun e w' ⟨h1, h2⟩ => by
    subst h2
    exact ⟨_, h1, Nat.le_refl _, Row.block (heap_alloc_new _ _), H.alloc' _, Chg.alloc _ _ _⟩
theorem take_st (H : Net B w bm v L sent) (i : Nat) (x : Nat × List Int) (hx : L[i]? = some x) (hl : x.2.length ≤ 1048592) (hmx : L.length ≤ 9223372036854775806) : Calls Try.prog 13 #[.pointer (some ⟨bm, 0, none⟩), .int .i64 i] w fun e w' =>
    ∃ p v', e = .returned (.tuple #[hdr p x.2.length, .int .i64 0]) ∧ Row w' p x.2 ∧ Net B w' bm v' (L.eraseIdx i) sent ∧ Chg (netS bm v) w w' :=
  (take_ok H i x hx (by omega) hmx).mono fun e w' ⟨h1, v', h2, h3, h4⟩ => ⟨_, v', h1, Row.block h4, h2, h3⟩
end
theorem same_eq (w : World) (v u : Value) (xs : List Int) (hv : Reads w v xs) (hu : Reads w u xs) (hbig : xs.length ≤ 9223372036854775807) : Calls Try.prog 14 #[v, u] w fun e w' => e = .returned (.bool true) ∧ Chg (fun _ => False) w w' :=
  (same_ok w v u xs xs hv hu hbig).mono fun e w' ⟨h1, m, h2⟩ => by
    subst h2
    exact ⟨by rw [h1]; simp, ⟨rfl, rfl, rfl, Nat.le_refl _, fun _ _ _ => rfl⟩⟩
theorem own_start {w w3 : World} {v8 : Value} {bs : List Int} (h0 : 0 < bs.length)
    (hown : w3.ownsRow w.heap.size 5 1 v8 (0 + bs.length) ([] ++ bytesV bs)) (hg : ((w.alloc (.cells #[.slice none 0 0, .int .i64 0] 50)).alloc (.cells #[] 5)).grownBy w3 (some (w.heap.size + 1))) :
    ∃ g cap, v8 = .slice (some ⟨g, 0, none⟩) bs.length cap ∧ Net w.heap.size w3 w.heap.size (.slice none 0 0) [] 0 ∧ Row w3 g bs ∧ Below w.heap.size w w3 ∧ w.heap.size ≤ g := by
  rcases hown.2 with ⟨_, hz⟩ | ⟨g, cap, cur, rfl, h1, h2, h3, h4, h5, h6⟩
  · omega
  · refine ⟨g, cap, by simp, ?_, ⟨cur, h2, by omega, by simpa using h6⟩, ⟨hg.os, hg.tape, hg.output, ?_, ?_⟩, h1⟩
    · refine ⟨Nat.le_refl _, ?_, World.ownsRow_nil _ _ _ _, fun y hy => (by cases hy), ?_⟩
      · rw [hg.block _ (by simp; omega) (by simp), heap_alloc_old _ _ (by simp)]
        exact heap_alloc_new w _
      · have := hg.size
        simp at this
        omega
    · have := hg.size
      simp at this
      omega
    · intro k hk
      rw [hg.block _ (by simp; omega) (by simp; omega), heap_alloc_old _ _ (by simp; omega), heap_alloc_old _ _ hk]
end Go.Proofs.Ytjffmdfkodkidaa

namespace Go.Proofs.Ytjffmdfkodkidaa
open Go.RowKit
set_option linter.unusedVariables false
/-- A slice's block is the old one's, or new. -/
def Fresh (w : World) (v v' : Value) : Prop := v'.ownBlock = v.ownBlock ∨ ∀ k, v'.ownBlock = some k → w.heap.size ≤ k
theorem Fresh.low {w w1 : World} {v v' : Value} (h : Fresh w1 v v') (hs : w.heap.size ≤ w1.heap.size) : Fresh w v v' :=
  h.elim .inl (fun h => .inr (fun k hk => Nat.le_trans hs (h k hk)))
theorem run_append_fresh {P : Program} (w : World) (base : Nat) (t ty e : TypeId) (i : TypeInfo) (z : Value) (size bytes : Nat) (ht : P.underlying t = some (.slice e)) (hi : P.info? e = some i) (hz : i.zero = some z)
    (hsize : i.size = size) (hby : i.bytes = bytes) (hzs : z.cells.size = size) (hsz : 0 < size)
    (v : Value) (n : Nat) (xs : List Value) (hown : w.ownsRow base e size v n xs)
    (a : Addr) (m c : Nat) (news : List Value) (hl : news.length = m * size) (hnews : ∀ j u, news[j]? = some u → w.cell? (a.add j) = some u) (h1 : ∀ u ∈ news, u.oneCell' = true)
    (h63 : n + m ≤ maxLen) (hbytes : (n + m) * bytes ≤ 140737488355328) (hbase : base ≤ w.heap.size) :
    ∃ v' w', (Builtin.append_ #[t, t] ty #[v, .slice (some a) m c]).run P w = .ok v' w' ∧ w'.ownsRow base e size v' (n + m) (xs ++ news) ∧ w.grownBy w' v.ownBlock ∧ Fresh w v v' := by
  obtain ⟨v', w', r1, r2, r3, _⟩ := run_append_own (P := P) w base t ty e i z size bytes ht hi hz hsize hby hzs hsz v n xs hown a m c news hl hnews h1 h63 hbytes hbase
  refine ⟨v', w', r1, r2, r3, ?_⟩
  rcases hown.2 with ⟨rfl, rfl⟩ | ⟨g, cap, cur, rfl, hbg, hg, hnc, hcm, hcs, htake⟩
  · obtain rfl : xs = [] := List.eq_nil_of_length_eq_zero (by simpa using hown.1)
    obtain ⟨v2, w2, s1, s2, _⟩ := run_append_own (P := P) w w.heap.size t ty e i z size bytes ht hi hz hsize hby hzs hsz (.slice none 0 0) 0 [] (World.ownsRow_nil w _ e size) a m c news hl hnews h1 h63 hbytes (Nat.le_refl _)
    rw [r1] at s1
    simp only [Result.ok.injEq] at s1
    obtain ⟨rfl, rfl⟩ := s1
    exact .inr (fun k hk => (s2.lt k hk).1)
  · by_cases hroom : n + m ≤ cap
    · have s1 := run_append_room (P := P) w t ty e i ht hi g n cap cur hg a m c news (by rw [hsize]; exact hl) hnews h1 hroom (by rw [hl, hcs, hsize, ← Nat.add_mul]; exact Nat.mul_le_mul_right _ hroom)
      rw [r1] at s1
      simp only [Result.ok.injEq] at s1
      exact .inl (by rw [s1.1]; rfl)
    · obtain ⟨v2, w2, s1, s2, _⟩ := run_append_arg_grows (P := P) w t ty e i z size bytes ht hi hz hsize hby hzs hsz ⟨g, 0, none⟩ n cap xs hown.1 (hown.cells (g := g) rfl) a m c news hl hnews (by omega) h63 hbytes
      rw [r1] at s1
      simp only [Result.ok.injEq] at s1
      obtain ⟨rfl, rfl⟩ := s1
      exact .inr (fun k hk => (s2.lt k hk).1)
theorem step_append_fresh {P : Program} {ops : Array Oper} {o : Oper} {a : Act} {w : World} {K : Act → World → Prop} {Q : Exit → Act → World → Prop} {E : Prop}
    (hg : o.guard = none) (s x : Operand) (t : TypeId) (hop : o.op = Op.call { callee := Callee.builtin Builtin.append, args := #[s, x], argTypes := #[t, t] })
    (base : Nat) (e : TypeId) (i : TypeInfo) (z : Value) (size bytes : Nat) (h1 : P.underlying t = some (.slice e)) (h2 : P.info? e = some i) (h3 : i.zero = some z) (h4 : i.size = size) (h5 : i.bytes = bytes) (h6 : z.cells.size = size) (h7 : 0 < size)
    (v : Value) (n : Nat) (xs : List Value) (hs : a.eval s = v) (hown : w.ownsRow base e size v n xs)
    (ad : Addr) (m c : Nat) (news : List Value) (hx : a.eval x = .slice (some ad) m c) (hn : news.length = m * size) (hc : ∀ j u, news[j]? = some u → w.cell? (ad.add j) = some u) (h1c : ∀ u ∈ news, u.oneCell' = true)
    (b1 : n + m ≤ maxLen) (b2 : (n + m) * bytes ≤ 140737488355328) (hbase : base ≤ w.heap.size)
    (hK : ∀ v' w', w'.ownsRow base e size v' (n + m) (xs ++ news) → w.grownBy w' v.ownBlock → Fresh w v v' → K (a.put o.dst v') w') :
    if Region.wanted o (yielded ops a.tmps) = true then Oper.wp P o a w K Q else E := by
  have hw : Region.wanted o (yielded ops a.tmps) = true := by simp [Region.wanted, hg]
  rw [if_pos hw]
  obtain ⟨v', w', hrun, r1, r2, r3⟩ := run_append_fresh (P := P) w base t o.type e i z size bytes h1 h2 h3 h4 h5 h6 h7 v n xs hown ad m c news hn hc h1c b1 b2 hbase
  unfold Oper.wp
  simp [execOp, hop, resolve, invoke, builtin, hs, hx, hrun, Result.andThen]
  exact hK v' w' r1 r2 r3
theorem send_play (B : Nat) (w : World) (bm : Nat) (v : Value) (L : List (Nat × List Int)) (sent : Int) (H : Net B w bm v L sent) (hL : L.length < 512)
    (a : Option Addr) (n c : Nat) (bs : List Int) (hn : bs.length = n) (hb : n ≤ 1048592)
    (ha : 0 < n → ∃ ad, a = some ad ∧ ∀ j v, (bytesV bs)[j]? = some v → w.cell? (ad.add j) = some v) :
    Calls Try.prog 9 #[.pointer (some ⟨bm, 0, none⟩), .slice a n c] w fun e w' => e = .returned (.int .i64 0) ∧ ∃ v' p, w.heap.size ≤ p ∧ Fresh w v v' ∧ Net B w' bm v' (L ++ [(p, bs)]) (wrap64 (sent + 1)) ∧ Chg (netS bm v) w w' := by
  obtain ⟨ao, cap, rfl⟩ : ∃ ao cap, v = .slice ao L.length cap := by
    rcases H.row.2 with ⟨rfl, h0⟩ | ⟨g, cap, cur, rfl, _⟩
    · exact ⟨none, 0, by rw [h0]⟩
    · exact ⟨_, _, rfl⟩
  have hc0 : w.cell? ⟨bm, 0, none⟩ = some (.slice ao L.length cap) := by simp [World.cell?, H.me]
  have hc1 : w.cell? ⟨bm, 1, none⟩ = some (.int .i64 sent) := by simp [World.cell?, H.me]
  have hf0 : w.frozen? ⟨bm, 0, none⟩ = false := by simp [World.frozen?, H.me]
  have hf1 : w.frozen? ⟨bm, 1, none⟩ = false := by simp [World.frozen?, H.me]
  have hn1 : ¬ ((1048592 : Int) < (n : Int)) := by omega
  have hn2 : ¬ ((512 : Int) ≤ (L.length : Int)) := by omega
  have hbm : bm < w.heap.size := (Array.getElem?_eq_some_iff.1 H.me).1
  have hB := H.size
  have hsz22 : Try.t22.size = 1 := by kernel_rfl
  have hby22 : Try.t22.bytes = 24 := by kernel_rfl
  have hz22 : Try.t22.zero = some (.slice none 0 0) := by kernel_rfl
  have hi22 : Try.prog.info? 22 = some Try.t22 := by kernel_rfl
  have hrd : ∀ w1 : World, w1.heap = w.heap → 0 < n → ∃ ad, a = some ad ∧ ∀ j v, (bytesV bs)[j]? = some v → w1.cell? (ad.add j) = some v := fun w1 e h => by
    obtain ⟨ad, h1, h2⟩ := ha h
    exact ⟨ad, h1, fun j v hj => by rw [show w1.cell? (ad.add j) = w.cell? (ad.add j) from by simp [World.cell?, e]]; exact h2 j v hj⟩
  clear ha
  go_enter Try.func9, Try.ntmps9
  go_wp2
  go_region_law (first
    | (go_simp; go_at_call 23; refine (own_walk a n c (bytesV bs) w.drew (by simp [hn]) (by omega) (one_bytes bs) (hrd w.drew rfl)).mono ?_; rintro e w' ⟨rfl, rfl⟩)
    | (refine step_append_fresh rfl (.tmp 23) (.tmp 26) 39 rfl B 22 Try.t22 (.slice none 0 0) 1 24 Try.underlying39 hi22 hz22 hsz22 hby22 rfl (by decide) (.slice ao L.length cap) L.length (L.map fun x => hdr x.1 x.2.length) (by simp [Act.eval]) (rowUp H.row _ _) ⟨w.heap.size + 1, 0, none⟩ 1 1 [hdr w.heap.size n] (by simp [Act.eval]) rfl (oneCell_at _ _ _ _ (by simp)) (by simp [Value.oneCell']) (by simp only [maxLen]; omega) (by omega) (by simp; omega) ?_
       intro v' w' hown hgrow hfresh
       obtain ⟨ao', cap', rfl⟩ := own_form hown
       have hm' : w'.heap[bm]? = some (.cells #[.slice ao L.length cap, .int .i64 sent] 50 (0, 0)) := meUp H.me H.nm hgrow
       have hs0 : w'.cell? ⟨bm, 0, none⟩ = some (.slice ao L.length cap) := by simp [World.cell?, hm']
       have hs1 : w'.frozen? ⟨bm, 0, none⟩ = false := by simp [World.frozen?, hm']
       have hs2 : w'.cell? ⟨bm, 1, none⟩ = some (.int .i64 sent) := by simp [World.cell?, hm']
       have hs3 : w'.frozen? ⟨bm, 1, none⟩ = false := by simp [World.frozen?, hm']))
  all_goals go_wp2
  all_goals (go_ret; subst hn; exact ⟨rfl, _, _, Nat.le_refl _, hfresh.low (by simp; omega), send_state H hown hgrow hm'⟩)
end Go.Proofs.Ytjffmdfkodkidaa

namespace Go.Proofs.Ytjffmdfkodkidaa
open Go.RowKit
set_option linter.unusedVariables false
theorem clear_all (w : World) (g n c : Nat) (cur : Array Value) (h : w.heap[g]? = some (.cells cur 22 (0, 0))) (hn : n ≤ cur.size) (h0 : 0 < n) :
    ∃ cur', (Builtin.clear_ #[39] 0 #[.slice (some ⟨g, 0, none⟩) n c]).run Try.prog w = .ok (.tuple #[]) (w.setRow g cur') ∧ cur'.size = cur.size := by
  have hz22 : Try.t22.zero = some (.slice none 0 0) := by kernel_rfl
  have hi22 : Try.prog.info? 22 = some Try.t22 := by kernel_rfl
  obtain ⟨vs, hvs⟩ : ∃ vs, vs = (Builtin.zeroCells (Value.slice none 0 0).cells n).toList := ⟨_, rfl⟩
  have hlen : vs.length = n := by
    rw [hvs]
    have := size_zeroCells (Value.slice none 0 0).cells n
    simpa [Value.cells] using this
  have hone : ∀ v ∈ vs, v.oneCell' = true := by
    intro v hv
    rw [hvs] at hv
    simp only [Builtin.zeroCells, Value.cells] at hv
    simp at hv
    obtain ⟨k, _, rfl⟩ := hv
    have : (#[Value.slice none 0 0] : Array Value).size = 1 := rfl
    simp [Nat.mod_one, Value.oneCell']
  have hst := run_storeCells_at Try.prog g 0 22 vs 0 cur w h (by simp; omega) hone
  obtain ⟨n', rfl⟩ : ∃ n', n = n' + 1 := ⟨n - 1, by omega⟩
  refine ⟨(List.take (0 + 0) cur.toList ++ vs ++ List.drop (0 + 0 + vs.length) cur.toList).toArray, ?_, ?_⟩
  · generalize w.setRow g (List.take (0 + 0) cur.toList ++ vs ++ List.drop (0 + 0 + vs.length) cur.toList).toArray = w9 at hst
    simp [Builtin.clear_, Try.underlying39, zeroValue, typeInfo, hi22, hz22, underlying, ← hvs, hst]
  · simp
    omega
section
variable {B : Nat} {w : World} {bm : Nat} {v : Value} {L : List (Nat × List Int)} {sent : Int}
theorem clear_ok (H : Net B w bm v L sent) : Calls Try.prog 21 #[.pointer (some ⟨bm, 0, none⟩)] w fun e w' => e = .returned (.tuple #[]) ∧ ∃ v', Net B w' bm v' [] sent ∧ Chg (netS bm v) w w' ∧ v'.ownBlock = v.ownBlock := by
  rcases H.row.2 with ⟨rfl, h0⟩ | ⟨g, cap, cur, rfl, hB, hg, hn, hmax, hsz, ht⟩
  · have hL : L = [] := List.eq_nil_of_length_eq_zero h0
    subst hL
    have hc0 : w.cell? ⟨bm, 0, none⟩ = some (.slice none 0 0) := by simp [World.cell?, H.me]
    have hf0 : w.frozen? ⟨bm, 0, none⟩ = false := by simp [World.frozen?, H.me]
    have hst : Net B (w.setCell ⟨bm, 0, none⟩ (.slice none 0 0)) bm (.slice none 0 0) [] sent ∧ Chg (netS bm (.slice none 0 0)) w (w.setCell ⟨bm, 0, none⟩ (.slice none 0 0)) := by
      refine ⟨⟨H.base, heap_set1 _ _ _ _ _ H.me, World.ownsRow_nil _ _ _ _, fun x hx => (by cases hx), by have := H.size; simp [World.setCell]; omega⟩, ⟨rfl, rfl, rfl, by simp [World.setCell], fun k hk hs => Below.heap_setCell _ _ _ _ (fun e => hs (.inl e))⟩⟩
    have hcl : (Builtin.clear_ #[39] 0 #[.slice none 0 0]).run Try.prog w = .ok (.tuple #[]) w := by simp [Builtin.clear_, Try.underlying39, underlying]
    clear H
    go_enter Try.func21, Try.ntmps21
    go_wp2
    go_end0
    exact ⟨rfl, _, hst.1, hst.2, rfl⟩
  · have hne : bm ≠ g := fun e => H.nm (by simp [Value.ownBlock, e])
    have hc0 : w.cell? ⟨bm, 0, none⟩ = some (.slice (some ⟨g, 0, none⟩) L.length cap) := by simp [World.cell?, H.me]
    have hf0 : w.frozen? ⟨bm, 0, none⟩ = false := by simp [World.frozen?, H.me]
    simp only [Nat.mul_one] at hsz
    obtain ⟨w1, cur', hcl, hw1, hs1⟩ : ∃ (w1 : World) (cur' : Array Value), (Builtin.clear_ #[39] 0 #[.slice (some ⟨g, 0, none⟩) L.length cap]).run Try.prog w = .ok (.tuple #[]) w1 ∧ Chg (fun k => k = g) w w1 ∧ (w1.heap[g]? = some (.cells cur' 22 (0, 0)) ∧ cur'.size = cap) := by
      by_cases h0 : L.length = 0
      · refine ⟨w, cur, ?_, Chg.refl _ _, hg, hsz⟩
        rw [h0]
        simp [Builtin.clear_, Try.underlying39, underlying]
      · obtain ⟨cur', h1, h2⟩ := clear_all w g L.length cap cur hg (by omega) (by omega)
        exact ⟨_, cur', h1, chg_setRow (Chg.refl _ _) _, setRow_heap w g _ _ 22 _ hg, by omega⟩
    have hm1 : w1.heap[bm]? = some (.cells #[.slice (some ⟨g, 0, none⟩) L.length cap, .int .i64 sent] 50 (0, 0)) := hw1.at H.me hne
    have hc1 : w1.cell? ⟨bm, 0, none⟩ = some (.slice (some ⟨g, 0, none⟩) L.length cap) := by simp [World.cell?, hm1]
    have hf1 : w1.frozen? ⟨bm, 0, none⟩ = false := by simp [World.frozen?, hm1]
    have hst : Net B (w1.setCell ⟨bm, 0, none⟩ (.slice (some ⟨g, 0, none⟩) 0 cap)) bm (.slice (some ⟨g, 0, none⟩) 0 cap) [] sent ∧ Chg (netS bm (.slice (some ⟨g, 0, none⟩) L.length cap)) w (w1.setCell ⟨bm, 0, none⟩ (.slice (some ⟨g, 0, none⟩) 0 cap)) := by
      refine ⟨⟨H.base, heap_set1 _ _ _ _ _ hm1, ⟨rfl, .inr ⟨g, cap, cur', rfl, hB, ?_, Nat.zero_le _, hmax, by simpa using hs1.2, by simp⟩⟩, fun x hx => (by cases hx), ?_⟩, ⟨hw1.os, hw1.tape, hw1.output, by simpa [World.setCell] using hw1.size, fun k hk hs => ?_⟩⟩
      · rw [Below.heap_setCell _ _ _ _ (Ne.symm hne)]
        exact hs1.1
      · have := H.size
        have := hw1.size
        simp [World.setCell]
        omega
      · rw [Below.heap_setCell _ _ _ _ (fun e => hs (.inl e))]
        exact hw1.block k hk (fun e => hs (.inr (by simp [Value.ownBlock, e])))
    clear H ht hg hw1 hs1 hm1
    go_enter Try.func21, Try.ntmps21
    go_wp2
    go_end0
    exact ⟨rfl, _, hst.1, hst.2, rfl⟩
end
end Go.Proofs.Ytjffmdfkodkidaa

namespace Go.Proofs.Ytjffmdfkodkidaa
open Go.RowKit
set_option linter.unusedVariables false
theorem copy_state {B : Nat} {w w' : World} {bm : Nat} {v v' : Value} {L : List (Nat × List Int)} {sent : Int} (H : Net B w bm v L sent) {bs : List Int} {o : Obj}
    (hown : w'.ownsRow B 22 1 v' (L.length + 1) ((L.map fun x => hdr x.1 x.2.length) ++ [hdr w.heap.size bs.length]))
    (hg : ((w.alloc (.cells (bytesV bs).toArray 5)).alloc o).drew.grownBy w' v.ownBlock) (hm : w'.heap[bm]? = some (.cells #[v, .int .i64 sent] 50 (0, 0))) :
    Net B (w'.setCell ⟨bm, 0, none⟩ v') bm v' (L ++ [(w.heap.size, bs)]) sent ∧ Chg (netS bm v) w (w'.setCell ⟨bm, 0, none⟩ v') := by
  have hbm : bm < w.heap.size := (Array.getElem?_eq_some_iff.1 H.me).1
  have hold : ∀ k, k < w.heap.size → v.ownBlock ≠ some k → w'.heap[k]? = w.heap[k]? := by
    intro k hk hv
    have h1 : ((w.alloc (.cells (bytesV bs).toArray 5)).alloc o).drew.heap[k]? = w.heap[k]? := by
      show ((w.alloc (.cells (bytesV bs).toArray 5)).alloc o).heap[k]? = w.heap[k]?
      rw [heap_alloc_old (w.alloc (.cells (bytesV bs).toArray 5)) o (r := k) (by simp; omega), heap_alloc_old w _ (r := k) hk]
    rw [hg.block k (by simp; omega) (Ne.symm hv), h1]
  have hnew : w'.heap[w.heap.size]? = some (.cells (bytesV bs).toArray 5 (0, 0)) := by
    rw [hg.block w.heap.size (by simp; omega) (fun e => by have := (H.row.lt _ e.symm).2; omega)]
    show ((w.alloc (.cells (bytesV bs).toArray 5)).alloc o).heap[w.heap.size]? = _
    rw [heap_alloc_old (w.alloc (.cells (bytesV bs).toArray 5)) o (r := w.heap.size) (by simp)]
    exact heap_alloc_new w _
  have hsz : w.heap.size + 2 ≤ w'.heap.size := by
    have := hg.size
    simpa using this
  refine ⟨⟨H.base, heap_set1 _ _ _ _ _ hm, ?_, ?_, by simp [World.setCell]; have := H.size; omega⟩, ⟨?_, ?_, ?_, ?_, ?_⟩⟩
  · have hnm : v'.ownBlock ≠ some bm := own_ne hown hm (by decide)
    refine ⟨by simp, ?_⟩
    rcases hown.2 with ⟨rfl, h0⟩ | ⟨g, cap, cur, rfl, h1, h2, h3⟩
    · simp at h0
    · refine .inr ⟨g, cap, cur, by simp, h1, ?_, ?_⟩
      · rw [Below.heap_setCell _ _ _ _ (fun e => hnm (by simp [Value.ownBlock, e])), h2]
      · simpa using h3
  · intro x hx
    rcases List.mem_append.1 hx with hx | hx
    · refine ⟨(H.pk x hx).low, ?_⟩
      rw [Below.heap_setCell _ _ _ _ (H.ne hx), hold _ (Array.getElem?_eq_some_iff.1 (H.pk x hx).at_).1 (H.nl hx)]
      exact (H.pk x hx).at_
    · simp only [List.mem_cons, List.not_mem_nil, or_false] at hx
      subst hx
      refine ⟨H.size, ?_⟩
      rw [Below.heap_setCell _ _ _ _ (by simp only; omega)]
      exact hnew
  · exact hg.os
  · exact hg.tape
  · exact hg.output
  · simp [World.setCell]; omega
  · intro k hk hs
    rw [Below.heap_setCell _ _ _ _ (fun e => hs (.inl e))]
    exact hold k hk (fun e => hs (.inr e))


theorem Net.mono {B B' : Nat} {w : World} {bm : Nat} {v : Value} {L : List (Nat × List Int)} {sent : Int} (H : Net B' w bm v L sent) (hB : B ≤ B') : Net B w bm v L sent := by
  refine ⟨Nat.le_trans hB H.base, H.me, ⟨H.row.1, ?_⟩, fun x hx => ⟨Nat.le_trans hB (H.pk x hx).low, (H.pk x hx).at_⟩, Nat.le_trans hB H.size⟩
  rcases H.row.2 with h | ⟨g, cap, cur, hv, hb, hr⟩
  · exact .inl h
  · exact .inr ⟨g, cap, cur, hv, Nat.le_trans hB hb, hr⟩
def CopyR (w : World) (L : List (Nat × List Int)) (sent : Int) (k : Nat) (wr : World) : Prop :=
  ∃ v' L', Net w.heap.size wr w.heap.size v' L' sent ∧ L'.map (·.2) = (L.take k).map (·.2) ∧ Below w.heap.size w wr
section
variable {B : Nat} {w : World} {bm : Nat} {v : Value} {L : List (Nat × List Int)} {sent : Int}
set_option maxHeartbeats 2000000 in
theorem copy_ok (H : Net B w bm v L sent) (hmx : L.length ≤ 512) (hl : ∀ x ∈ L, x.2.length ≤ 1048592) : Calls Try.prog 18 #[.pointer (some ⟨bm, 0, none⟩)] w fun e w' => e = .returned (.pointer (some ⟨w.heap.size, 0, none⟩)) ∧ CopyR w L sent L.length w' := by
  obtain ⟨ao, cap, rfl⟩ := own_form H.row
  have hc0 : w.cell? ⟨bm, 0, none⟩ = some (.slice ao L.length cap) := by simp [World.cell?, H.me]
  have hc1 : w.cell? ⟨bm, 1, none⟩ = some (.int .i64 sent) := by simp [World.cell?, H.me]
  have hbm : bm < w.heap.size := (Array.getElem?_eq_some_iff.1 H.me).1
  have hR0 : CopyR w L sent 0 (w.alloc (.cells #[.slice none 0 0, .int .i64 sent] 50)) :=
    ⟨.slice none 0 0, [], ⟨Nat.le_refl _, heap_alloc_new w _, World.ownsRow_nil _ _ _ _, fun x hx => (by cases hx), by simp⟩, by simp, Below.alloc (Below.refl _ _) (Nat.le_refl _) _⟩
  go_enter Try.func18, Try.ntmps18
  go_wp2
  generalize w.alloc (.cells #[.slice none 0 0, .int .i64 sent] 50) = w1 at hR0 ⊢
  go_loopw [19] (fun i wr => ∃ k : Nat, k ≤ L.length ∧ i = .int .i64 k ∧ Hid (CopyR w L sent k wr)) (fun i _ => L.length - (intOf i).toNat)
  case atStart => exact ⟨0, by omega, rfl, hR0⟩
  case round =>
    clear hR0
    obtain ⟨k, hk, rfl, hF⟩ := hrel
    by_cases hlt : k < L.length
    · have hlt' : (k : Int) < (L.length : Int) := by omega
      obtain ⟨v', L', H', hmap, hb⟩ := hF.out
      clear hF
      obtain ⟨x, hx⟩ : ∃ x, L[k]? = some x := ⟨L[k], List.getElem?_eq_getElem hlt⟩
      obtain ⟨g, cap2, hv, hcell, _⟩ := at_ok H hx
      simp only [Value.slice.injEq] at hv
      obtain ⟨rfl, _, rfl⟩ := hv
      have hglt := (H.row.lt g rfl).2
      have hcw : wr.cell? ⟨g, k, none⟩ = some (hdr x.1 x.2.length) := by
        rw [← hcell]
        simp only [World.cell?, hb.block g hglt]
      have hpk := (H.pk x (List.mem_of_getElem? hx)).at_
      have hplt := (Array.getElem?_eq_some_iff.1 hpk).1
      have hrd : ∀ j u, (bytesV x.2)[j]? = some u → wr.drew.cell? ((⟨x.1, 0, none⟩ : Addr).add j) = some u := by
        intro j u hj
        rw [addr_add]
        show wr.cell? _ = _
        simp only [World.cell?, hb.block x.1 hplt, hpk]
        simpa using hj
      have hxl := hl x (List.mem_of_getElem? hx)
      have hL' : L'.length = k := by
        have := congrArg List.length hmap
        simpa [Nat.min_eq_left hk] using this
      obtain ⟨ao', cap', rfl⟩ := own_form H'.row
      have hd0 : wr.cell? ⟨w.heap.size, 0, none⟩ = some (.slice ao' L'.length cap') := by simp [World.cell?, H'.me]
      have hd1 : wr.frozen? ⟨w.heap.size, 0, none⟩ = false := by simp [World.frozen?, H'.me]
      have hwlt : w.heap.size < wr.heap.size := (Array.getElem?_eq_some_iff.1 H'.me).1
      have hsz22 : Try.t22.size = 1 := by kernel_rfl
      have hby22 : Try.t22.bytes = 24 := by kernel_rfl
      have hz22 : Try.t22.zero = some (.slice none 0 0) := by kernel_rfl
      have hi22 : Try.prog.info? 22 = some Try.t22 := by kernel_rfl
      have hfin : ∀ (w' : World) (v2 : Value) (o : Obj), w'.ownsRow w.heap.size 22 1 v2 (L'.length + 1) ((L'.map fun y => hdr y.1 y.2.length) ++ [hdr wr.heap.size x.2.length]) →
          ((wr.alloc (.cells (bytesV x.2).toArray 5)).alloc o).drew.grownBy w' (Value.slice ao' L'.length cap').ownBlock → w'.heap[w.heap.size]? = some (.cells #[.slice ao' L'.length cap', .int .i64 sent] 50 (0, 0)) → CopyR w L sent (k + 1) (w'.setCell ⟨w.heap.size, 0, none⟩ v2) := by
        intro w' v2 o h1 h2 h3
        obtain ⟨g1, g2⟩ := copy_state H' h1 h2 h3
        refine ⟨v2, _, g1, ?_, hb.trans (H'.below g2)⟩
        rw [List.map_append, hmap, List.take_add_one, hx]
        simp
      clear hx H hpk hmap hcell hb hc0 hc1
      have HF : Hid _ := hfin
      have hLb : L'.length ≤ 512 := by omega
      clear hfin hL'
      go_wp2
      go_region_law (first
        | (go_simp; go_at_call 23; refine (own_walk (some ⟨x.1, 0, none⟩) x.2.length x.2.length (bytesV x.2) wr.drew (by simp) (by omega) (one_bytes x.2) (fun _ => ⟨_, rfl, hrd⟩)).mono ?_; rintro e w' ⟨rfl, rfl⟩)
        | (refine step_append_fresh rfl (.tmp 27) (.tmp 30) 39 rfl w.heap.size 22 Try.t22 (.slice none 0 0) 1 24 Try.underlying39 hi22 hz22 hsz22 hby22 rfl (by decide) (.slice ao' L'.length cap') L'.length (L'.map fun y => hdr y.1 y.2.length) (by simp [Act.eval, Act.put]) (rowUp H'.row _ _) ⟨wr.heap.size + 1, 0, none⟩ 1 1 [hdr wr.heap.size x.2.length] (by simp [Act.eval, Act.put]) rfl (oneCell_at _ _ _ _ (by simp)) (by simp [Value.oneCell']) (by simp only [maxLen]; omega) (by omega) (by simp; omega) ?_
           intro v2 w' hown hgrow _
           obtain ⟨a2, c2, rfl⟩ := own_form hown
           have hm' := meUp H'.me H'.nm hgrow
           have hs0 : w'.cell? ⟨w.heap.size, 0, none⟩ = some (.slice ao' L'.length cap') := by simp [World.cell?, hm']
           have hs1 : w'.frozen? ⟨w.heap.size, 0, none⟩ = false := by simp [World.frozen?, hm']
           have hG : Hid _ := HF.out w' _ _ hown hgrow hm'))
      all_goals go_wp2
      all_goals go_roundw
      all_goals first
        | (exact ⟨k + 1, by omega, by go_num, hG⟩)
        | (simp only [intOf]; omega)
    · have hge : k = L.length := by omega
      subst hge
      have hF := hF.out
      have hlt' : ¬ ((L.length : Int) < (L.length : Int)) := by omega
      go_wp2
      go_ret
      exact ⟨rfl, hF⟩
end
end Go.Proofs.Ytjffmdfkodkidaa

namespace Go.Proofs.Ytjffmdfkodkidaa
open Go.RowKit
set_option linter.unusedVariables false
section
variable {B : Nat} {w : World} {bm : Nat} {v : Value} {L : List (Nat × List Int)} {sent : Int}
theorem drop_play (H : Net B w bm v L sent) (i : Nat) (hi : i < L.length) (hmx : L.length ≤ 9223372036854775806) : Calls Try.prog 22 #[.pointer (some ⟨bm, 0, none⟩), .int .i64 i] w fun e w' =>
    e = .returned (.int .i64 0) ∧ ∃ v', Net B w' bm v' (L.eraseIdx i) sent ∧ Chg (netS bm v) w w' ∧ Fresh w v v' := by
  have hm := may_ok H i hi
  rcases H.row.2 with ⟨rfl, h0⟩ | ⟨g, cap, cur, rfl, hB, hg, hn, hmax, hsz, ht⟩
  · omega
  simp only [Nat.mul_one] at hsz ht
  have hdel := delete_ok w g L.length cap i cur hg hi hn hmax hsz (by
    rw [ht]
    intro u hu
    obtain ⟨x, _, rfl⟩ := List.mem_map.1 hu
    rfl)
  have hst := fun w1 (hD : Deleted g cap i (L.length - 1 - i) cur w w1) => drop_state H hi hB hn hmax ht hD
  have hc0 : w.cell? ⟨bm, 0, none⟩ = some (.slice (some ⟨g, 0, none⟩) L.length cap) := by simp [World.cell?, H.me]
  have hnew : ∀ w1, Deleted g cap i (L.length - 1 - i) cur w w1 → w1.cell? ⟨bm, 0, none⟩ = some (.slice (some ⟨g, 0, none⟩) L.length cap) ∧ w1.frozen? ⟨bm, 0, none⟩ = false := by
    intro w1 hD
    have hne : bm ≠ g := fun e => H.nm (by simp [Value.ownBlock, e])
    have : w1.heap[bm]? = some (.cells #[.slice (some ⟨g, 0, none⟩) L.length cap, .int .i64 sent] 50 (0, 0)) := by
      rw [hD.chg.block bm (Array.getElem?_eq_some_iff.1 H.me).1 hne, H.me]
    exact ⟨by simp [World.cell?, this], by simp [World.frozen?, this]⟩
  have hx1 : (i : Int) + 1 ≤ 9223372036854775807 := by omega
  clear hn hmax hsz ht hg H
  go_enter Try.func22, Try.ntmps22
  go_wp2_with (first | (go_at_call 24; refine hm.mono ?_; rintro e w' ⟨rfl, rfl⟩) | (go_at_call 30; refine hdel.mono ?_; rintro e w1 ⟨rfl, hD⟩; obtain ⟨hs0, hs1⟩ := hnew w1 hD; have hfin := hst w1 hD; clear hD))
  go_ret
  exact ⟨rfl, _, hfin.1, hfin.2, .inl rfl⟩
theorem take_play (H : Net B w bm v L sent) (i : Nat) (x : Nat × List Int) (hx : L[i]? = some x) (hl : x.2.length ≤ 281474976710656) (hmx : L.length ≤ 9223372036854775806) :
    Calls Try.prog 13 #[.pointer (some ⟨bm, 0, none⟩), .int .i64 i] w fun e w' => e = .returned (.tuple #[hdr w.heap.size x.2.length, .int .i64 0]) ∧
      ∃ v', Net B w' bm v' (L.eraseIdx i) sent ∧ Chg (netS bm v) w w' ∧ w'.heap[w.heap.size]? = some (.cells (bytesV x.2).toArray 5 (0, 0)) ∧ Fresh w v v' := by
  have hi : i < L.length := (List.getElem?_eq_some_iff.1 hx).1
  have h1 := look_ok H i x hx hl
  have h2 := drop_play (H.alloc' (.cells (bytesV x.2).toArray 5)) i hi hmx
  have hfin : ∀ w' v', Net B w' bm v' (L.eraseIdx i) sent → Chg (netS bm v) (w.alloc (.cells (bytesV x.2).toArray 5)) w' → Net B w' bm v' (L.eraseIdx i) sent ∧ Chg (netS bm v) w w' ∧ w'.heap[w.heap.size]? = some (.cells (bytesV x.2).toArray 5 (0, 0)) :=
    fun w' v' g1 g2 => ⟨g1, (Chg.alloc _ w _).trans g2, g2.at (heap_alloc_new w _) (H.fresh (Nat.le_refl _))⟩
  clear hx
  go_enter Try.func13, Try.ntmps13
  go_wp2_with (first | (go_at_call 11; refine h1.mono ?_; rintro e w' ⟨rfl, rfl⟩) | (go_at_call 22; refine h2.mono ?_; rintro e w' ⟨rfl, v', g1, g2, g3⟩; have hf := hfin w' v' g1 g2; have hfr : Fresh w v v' := g3.low (by simp); clear g1 g2 g3))
  go_ret2
  exact ⟨rfl, _, hf.1, hf.2.1, hf.2.2, hfr⟩
theorem double_play (H : Net B w bm v L sent) (i : Nat) (x : Nat × List Int) (hx : L[i]? = some x) (hl : x.2.length ≤ 1048592) (hL : L.length < 512) :
    Calls Try.prog 10 #[.pointer (some ⟨bm, 0, none⟩), .int .i64 i] w fun e w' => e = .returned (.int .i64 0) ∧ ∃ v' p, w.heap.size ≤ p ∧ Fresh w v v' ∧ Net B w' bm v' (L ++ [(p, x.2)]) (wrap64 (sent + 1)) ∧ Chg (netS bm v) w w' := by
  have h1 := look_ok H i x hx (by omega)
  have h2 := send_play B (w.alloc (.cells (bytesV x.2).toArray 5)) bm v L sent (H.alloc' _) hL (some ⟨w.heap.size, 0, none⟩) x.2.length x.2.length x.2 rfl hl (fun _ => ⟨_, rfl, bytes_at w x.2⟩)
  have hfin : ∀ w' v' p, Net B w' bm v' (L ++ [(p, x.2)]) (wrap64 (sent + 1)) → Chg (netS bm v) (w.alloc (.cells (bytesV x.2).toArray 5)) w' → Net B w' bm v' (L ++ [(p, x.2)]) (wrap64 (sent + 1)) ∧ Chg (netS bm v) w w' :=
    fun w' v' p g1 g2 => ⟨g1, (Chg.alloc _ w _).trans g2⟩
  clear hx
  go_enter Try.func10, Try.ntmps10
  go_wp2_with (first | (go_at_call 11; refine h1.mono ?_; rintro e w' ⟨rfl, rfl⟩) | (go_at_call 9; refine h2.mono ?_; rintro e w' ⟨rfl, v', p, g0, g3, g1, g2⟩; have hf := hfin w' v' p g1 g2; have hfr : Fresh w v v' := g3.low (by simp); have hp : w.heap.size ≤ p := Nat.le_trans (by simp) g0; clear g0 g1 g2 g3))
  go_ret
  exact ⟨rfl, _, _, hp, hfr, hf⟩
theorem spoil_at (H : Net B w bm v L sent) (i : Nat) (x : Nat × List Int) (hx : L[i]? = some x) (hl : x.2.length ≤ 281474976710656) (at_ by_ : Int) (hb : at_ < 0 ∨ (x.2.length : Int) ≤ at_ ∨ by_ = 0) :
    Calls Try.prog 12 #[.pointer (some ⟨bm, 0, none⟩), .int .i64 i, .int .i64 at_, .int .u8 by_] w fun e w' => e = .returned (.int .i64 4) ∧ w' = w.alloc (.cells (bytesV x.2).toArray 5) := by
  have h1 := look_ok H i x hx hl
  have hcond : (decide (at_ < 0) || decide ((x.2.length : Int) ≤ at_) || (by_ == 0)) = true := by
    rcases hb with h | h | h
    · simp [h]
    · simp [h]
    · simp [h]
  clear hx H hb
  go_enter Try.func12, Try.ntmps12
  go_wp2_with (go_at_call 11; refine h1.mono ?_; rintro e w' ⟨rfl, rfl⟩)
  all_goals (go_ret; exact ⟨rfl, rfl⟩)
end
end Go.Proofs.Ytjffmdfkodkidaa

namespace Go.Proofs.Ytjffmdfkodkidaa
open Go.RowKit
set_option linter.unusedVariables false
theorem run_append_src {P : Program} (w : World) (base : Nat) (t ty e : TypeId) (i : TypeInfo) (z : Value) (size bytes : Nat) (ht : P.underlying t = some (.slice e)) (hi : P.info? e = some i) (hz : i.zero = some z)
    (hsize : i.size = size) (hby : i.bytes = bytes) (hzs : z.cells.size = size) (hsz : 0 < size)
    (v : Value) (n : Nat) (xs : List Value) (hown : w.ownsRow base e size v n xs)
    (ao : Option Addr) (m c : Nat) (news : List Value) (hl : news.length = m * size) (hnews : ∀ a, ao = some a → ∀ j u, news[j]? = some u → w.cell? (a.add j) = some u) (hnone : ao = none → m = 0 ∧ c = 0) (h1 : ∀ u ∈ news, u.oneCell' = true)
    (h63 : n + m ≤ maxLen) (hbytes : (n + m) * bytes ≤ 140737488355328) (hbase : base ≤ w.heap.size) :
    ∃ v' w', (Builtin.append_ #[t, t] ty #[v, .slice ao m c]).run P w = .ok v' w' ∧ w'.ownsRow base e size v' (n + m) (xs ++ news) ∧ w.grownBy w' v.ownBlock ∧ Fresh w v v' := by
  cases ao with
  | some a => exact run_append_fresh w base t ty e i z size bytes ht hi hz hsize hby hzs hsz v n xs hown a m c news hl (hnews a rfl) h1 h63 hbytes hbase
  | none =>
    obtain ⟨rfl, rfl⟩ := hnone rfl
    obtain rfl : news = [] := List.eq_nil_of_length_eq_zero (by simpa using hl)
    refine ⟨v, w, run_append_owned_none (P := P) (w := w) base t ty e i size ht hi v n xs hown, ?_, ⟨rfl, rfl, rfl, Nat.le_refl _, fun _ _ _ => rfl⟩, .inl rfl⟩
    simpa using hown
theorem step_append_src {P : Program} {ops : Array Oper} {o : Oper} {a : Act} {w : World} {K : Act → World → Prop} {Q : Exit → Act → World → Prop} {E : Prop}
    (hg : o.guard = none) (s x : Operand) (t : TypeId) (hop : o.op = Op.call { callee := Callee.builtin Builtin.append, args := #[s, x], argTypes := #[t, t] })
    (base : Nat) (e : TypeId) (i : TypeInfo) (z : Value) (size bytes : Nat) (h1 : P.underlying t = some (.slice e)) (h2 : P.info? e = some i) (h3 : i.zero = some z) (h4 : i.size = size) (h5 : i.bytes = bytes) (h6 : z.cells.size = size) (h7 : 0 < size)
    (v : Value) (n : Nat) (xs : List Value) (hs : a.eval s = v) (hown : w.ownsRow base e size v n xs)
    (ao : Option Addr) (m c : Nat) (news : List Value) (hx : a.eval x = .slice ao m c) (hn : news.length = m * size) (hc : ∀ a, ao = some a → ∀ j u, news[j]? = some u → w.cell? (a.add j) = some u) (hnone : ao = none → m = 0 ∧ c = 0) (h1c : ∀ u ∈ news, u.oneCell' = true)
    (b1 : n + m ≤ maxLen) (b2 : (n + m) * bytes ≤ 140737488355328) (hbase : base ≤ w.heap.size)
    (hK : ∀ v' w', w'.ownsRow base e size v' (n + m) (xs ++ news) → w.grownBy w' v.ownBlock → Fresh w v v' → K (a.put o.dst v') w') :
    if Region.wanted o (yielded ops a.tmps) = true then Oper.wp P o a w K Q else E := by
  have hw : Region.wanted o (yielded ops a.tmps) = true := by simp [Region.wanted, hg]
  rw [if_pos hw]
  obtain ⟨v', w', hrun, r1, r2, r3⟩ := run_append_src (P := P) w base t o.type e i z size bytes h1 h2 h3 h4 h5 h6 h7 v n xs hown ao m c news hn hc hnone h1c b1 b2 hbase
  unfold Oper.wp
  simp [execOp, hop, resolve, invoke, builtin, hs, hx, hrun, Result.andThen]
  exact hK v' w' r1 r2 r3
theorem wpList_append_src {P : Program} (w : World) {ops : Array Oper} {rest : List Oper} {o : Oper} {a : Act} {Q : Exit → Act → World → Prop} (hgd : o.guard = none) (s x : Operand) (t : TypeId)
    (ho : o.op = .call { callee := .builtin .append, args := #[s, x], argTypes := #[t, t] })
    (base : Nat) (e : TypeId) (i : TypeInfo) (z : Value) (size bytes : Nat) (h1 : P.underlying t = some (.slice e)) (h2 : P.info? e = some i) (h3 : i.zero = some z) (h4 : i.size = size) (h5 : i.bytes = bytes) (h6 : z.cells.size = size) (h7 : 0 < size)
    (v : Value) (n : Nat) (xs : List Value) (hs : a.eval s = v) (hown : w.ownsRow base e size v n xs)
    (ao : Option Addr) (m c : Nat) (news : List Value) (hx : a.eval x = .slice ao m c) (hn : news.length = m * size) (hc : ∀ a, ao = some a → ∀ j u, news[j]? = some u → w.cell? (a.add j) = some u) (hnone : ao = none → m = 0 ∧ c = 0) (h1c : ∀ u ∈ news, u.oneCell' = true)
    (b1 : n + m ≤ maxLen) (b2 : (n + m) * bytes ≤ 140737488355328) (hbase : base ≤ w.heap.size)
    (h : ∀ v' w', w'.ownsRow base e size v' (n + m) (xs ++ news) → w.grownBy w' v.ownBlock → Fresh w v v' → wpList P ops Q rest (a.put o.dst v') w') : wpList P ops Q (o :: rest) a w := by
  refine wpList_plain hgd fun K hK => ?_
  obtain ⟨v', w', hrun, r1, r2, r3⟩ := run_append_src (P := P) w base t o.type e i z size bytes h1 h2 h3 h4 h5 h6 h7 v n xs hown ao m c news hn hc hnone h1c b1 b2 hbase
  unfold Oper.wp
  simp [execOp, ho, resolve, invoke, builtin, hs, hx, hrun, Result.andThen]
  exact hK _ _ (h v' w' r1 r2 r3)

/-- A slice of bytes, in blocks of bytes. -/
def Bytes (w : World) (y : Value) (bs : List Int) : Prop :=
  ∃ a c, y = .slice a bs.length c ∧ (a = none → c = 0) ∧ (0 < bs.length → ∃ p o cur, a = some ⟨p, o, none⟩ ∧ w.heap[p]? = some (.cells cur 5 (0, 0)) ∧ ∀ k, k < bs.length → cur[o + k]? = some (.int .u8 (bs.getD k 0)))
/-- The reference's packets. -/
def RefL (w : World) (u : Value) (Ls : List (List Int)) : Prop :=
  ∃ a c, u = .slice a Ls.length c ∧ ((a = none → c = 0) ∧ Ls.length ≤ c) ∧ (0 < Ls.length → ∃ b o cur, a = some ⟨b, o, none⟩ ∧ w.heap[b]? = some (.cells cur 22 (0, 0)) ∧ o + Ls.length ≤ cur.size ∧ ∀ (i : Nat) (bs : List Int), Ls[i]? = some bs → ∃ y, cur[o + i]? = some y ∧ Bytes w y bs)
def Apart (v u : Value) : Prop := ∀ k, u.ownBlock = some k → v.ownBlock ≠ some k
theorem Bytes.reads {w : World} {y : Value} {bs : List Int} (h : Bytes w y bs) : Reads w y bs := by
  obtain ⟨a, c, rfl, _, h2⟩ := h
  refine ⟨a, c, rfl, fun h0 => ?_⟩
  obtain ⟨p, o, cur, rfl, h3, h4⟩ := h2 h0
  exact ⟨p, o, rfl, fun k hk => by simp only [World.cell?, h3]; exact h4 k hk⟩
theorem Bytes.chg {S : Nat → Prop} {w w' : World} {y : Value} {bs : List Int} (h : Bytes w y bs) (hc : Chg S w w') (hS : ∀ k cur, w.heap[k]? = some (.cells cur 5 (0, 0)) → ¬ S k) : Bytes w' y bs := by
  obtain ⟨a, c, rfl, h1, h2⟩ := h
  refine ⟨a, c, rfl, h1, fun h0 => ?_⟩
  obtain ⟨p, o, cur, rfl, h3, h4⟩ := h2 h0
  exact ⟨p, o, cur, rfl, hc.at h3 (hS p cur h3), h4⟩
theorem RefL.chg {S : Nat → Prop} {w w' : World} {u : Value} {Ls : List (List Int)} (h : RefL w u Ls) (hc : Chg S w w') (hS : ∀ k cur, w.heap[k]? = some (.cells cur 5 (0, 0)) → ¬ S k) (hu : ∀ k, u.ownBlock = some k → ¬ S k) : RefL w' u Ls := by
  obtain ⟨a, c, rfl, h1, h2⟩ := h
  refine ⟨a, c, rfl, h1, fun h0 => ?_⟩
  obtain ⟨b, o, cur, rfl, h3, h4, h5⟩ := h2 h0
  refine ⟨b, o, cur, rfl, hc.at h3 (hu b rfl), h4, fun i bs hi => ?_⟩
  obtain ⟨y, h6, h7⟩ := h5 i bs hi
  exact ⟨y, h6, h7.chg hc hS⟩
theorem Bytes.row {w : World} {y : Value} {bs : List Int} {B : Nat} {n : Nat} (h : w.ownsRow B 5 1 y n (bytesV bs)) : Bytes w y bs := by
  have hn : n = bs.length := by have := h.1; simpa using this.symm
  subst hn
  rcases h.2 with ⟨rfl, h0⟩ | ⟨g, cap, cur, rfl, h1, h2, h3, h4, h5, h6⟩
  · exact ⟨none, 0, by rw [h0], fun _ => rfl, fun h => by omega⟩
  · refine ⟨_, _, rfl, fun h => by simp at h, fun _ => ⟨g, 0, cur, rfl, h2, fun k hk => ?_⟩⟩
    have h7 : (cur.toList.take (bs.length * 1))[k]? = (bytesV bs)[k]? := by rw [h6]
    rw [List.getElem?_take_of_lt (by omega)] at h7
    simp only [Array.getElem?_toList] at h7
    rw [Nat.zero_add, h7]
    simp [hk]
theorem RefL.nil (w : World) : RefL w (.slice none 0 0) [] := ⟨none, 0, rfl, ⟨fun _ => rfl, Nat.le_refl _⟩, fun h => absurd h (by simp)⟩
/-- Of a row of its own. -/
theorem RefL.row {w : World} {u : Value} {Ls : List (List Int)} {B n : Nat} {ys : List Value} (h : w.ownsRow B 22 1 u n ys) (hl : ys.length = Ls.length) (hy : ∀ (i : Nat) (bs : List Int), Ls[i]? = some bs → ∃ y, ys[i]? = some y ∧ Bytes w y bs) : RefL w u Ls := by
  have hn : n = Ls.length := by have := h.1; simp at this; omega
  subst hn
  rcases h.2 with ⟨rfl, h0⟩ | ⟨g, cap, cur, rfl, h1, h2, h3, h4, h5, h6⟩
  · exact ⟨none, 0, by rw [h0], ⟨fun _ => rfl, by omega⟩, fun h => by omega⟩
  · refine ⟨_, _, rfl, ⟨(fun h => by simp at h), by omega⟩, fun _ => ⟨g, 0, cur, rfl, h2, by simp at h5; omega, fun i bs hi => ?_⟩⟩
    obtain ⟨y, g1, g2⟩ := hy i bs hi
    refine ⟨y, ?_, g2⟩
    have hlt : i < Ls.length := (List.getElem?_eq_some_iff.1 hi).1
    rw [← h6, List.getElem?_take_of_lt (by omega)] at g1
    simpa using g1
/-- The headers. -/
theorem RefL.heads {w : World} {a : Option Addr} {n c : Nat} {Ls : List (List Int)} (h : RefL w (.slice a n c) Ls) : Ls.length = n ∧ (a = none → n = 0 ∧ c = 0) ∧ ∃ ys : List Value, ys.length = n ∧ (∀ ad, a = some ad → ∀ (j : Nat) (u : Value), ys[j]? = some u → w.cell? (ad.add j) = some u) ∧ (∀ (i : Nat) (bs : List Int), Ls[i]? = some bs → ∃ y, ys[i]? = some y ∧ Bytes w y bs) ∧ ∀ y ∈ ys, y.oneCell' = true := by
  obtain ⟨a', c', he, h1, h2⟩ := h
  simp only [Value.slice.injEq] at he
  obtain ⟨rfl, rfl, rfl⟩ := he
  by_cases h0 : Ls.length = 0
  · obtain rfl : Ls = [] := List.eq_nil_of_length_eq_zero h0
    exact ⟨rfl, fun ha => ⟨rfl, h1.1 ha⟩, [], rfl, fun _ _ j u hj => (by simp at hj), fun i bs hi => (by simp at hi), fun y hy => (by simp at hy)⟩
  · obtain ⟨b, o, cur, rfl, h3, h4, h5⟩ := h2 (by omega)
    refine ⟨rfl, fun ha => (by simp at ha), (cur.toList.drop o).take Ls.length, by simp; omega, ?_, ?_, ?_⟩
    · intro ad had j u hj
      simp only [Option.some.injEq] at had
      subst had
      have hlt : j < Ls.length := by have := (List.getElem?_eq_some_iff.1 hj).1; simp at this; omega
      rw [List.getElem?_take_of_lt hlt, List.getElem?_drop] at hj
      have e : (⟨b, o, none⟩ : Addr).add j = ⟨b, o + j, none⟩ := by unfold Addr.add; split <;> simp_all
      rw [e]
      simpa [World.cell?, h3] using hj
    · intro i bs hi
      obtain ⟨y, g1, g2⟩ := h5 i bs hi
      have hlt : i < Ls.length := (List.getElem?_eq_some_iff.1 hi).1
      exact ⟨y, by rw [List.getElem?_take_of_lt hlt, List.getElem?_drop]; simpa using g1, g2⟩
    · intro y hy
      obtain ⟨i, hi, rfl⟩ := List.getElem_of_mem hy
      have hlt : i < Ls.length := by simp at hi; omega
      obtain ⟨y', g1, g2⟩ := h5 i Ls[i] (List.getElem?_eq_getElem hlt)
      obtain ⟨a2, c2, rfl, _⟩ := g2
      have : ((cur.toList.drop o).take Ls.length)[i]? = some (.slice a2 Ls[i].length c2) := by
        rw [List.getElem?_take_of_lt hlt, List.getElem?_drop]; simpa using g1
      rw [List.getElem?_eq_getElem hi] at this
      simp only [Option.some.injEq] at this
      rw [this]
      rfl
theorem RefL.cap {w : World} {a : Option Addr} {n c : Nat} {Ls : List (List Int)} (h : RefL w (.slice a n c) Ls) : n ≤ c := by
  obtain ⟨a', c', he, h1, _⟩ := h
  simp only [Value.slice.injEq] at he
  obtain ⟨rfl, rfl, rfl⟩ := he
  exact h1.2
end Go.Proofs.Ytjffmdfkodkidaa

namespace Go.Proofs.Ytjffmdfkodkidaa
open Go.RowKit
set_option linter.unusedVariables false
abbrev Still (w w' : World) : Prop := Chg (fun _ => False) w w'
theorem RefL.at {w : World} {a : Option Addr} {n c : Nat} {Ls : List (List Int)} (h : RefL w (.slice a n c) Ls) {i : Nat} {bs : List Int} (hi : Ls[i]? = some bs) : ∃ b o y, a = some ⟨b, o, none⟩ ∧ w.cell? ⟨b, o + i, none⟩ = some y ∧ Bytes w y bs := by
  obtain ⟨a', c', he, h1, h2⟩ := h
  simp only [Value.slice.injEq] at he
  obtain ⟨rfl, rfl, rfl⟩ := he
  have hlt : i < Ls.length := (List.getElem?_eq_some_iff.1 hi).1
  obtain ⟨b, o, cur, rfl, h3, h4, h5⟩ := h2 (by omega)
  obtain ⟨y, h6, h7⟩ := h5 i bs hi
  exact ⟨b, o, y, rfl, by simpa [World.cell?, h3] using h6, h7⟩
theorem in_ok (w : World) (a : Option Addr) (n c : Nat) (s i : Int) : Calls Try.prog 31 #[.agg #[.slice a n c, .int .i64 s], .int .i64 i] w fun e w' => e = .returned (.bool (decide (0 ≤ i ∧ i < n))) ∧ ∃ o, w' = w.alloc o := by
  by_cases h0 : 0 ≤ i
  · by_cases h1 : i < (n : Int)
    · rw [decide_eq_true ⟨h0, h1⟩]
      go_enter Try.func31, Try.ntmps31
      go_wp2
      go_ret
      exact ⟨rfl, _, rfl⟩
    · rw [decide_eq_false (fun h => h1 h.2)]
      go_enter Try.func31, Try.ntmps31
      go_wp2
      go_ret
      exact ⟨rfl, _, rfl⟩
  · rw [decide_eq_false (fun h => h0 h.1)]
    go_enter Try.func31, Try.ntmps31
    go_wp2
    go_ret
    exact ⟨rfl, _, rfl⟩
theorem rlook_ok (w : World) (a : Option Addr) (n c : Nat) (s : Int) (Ls : List (List Int)) (i : Nat) (bs : List Int) (h : RefL w (.slice a n c) Ls) (hi : Ls[i]? = some bs) :
    Calls Try.prog 26 #[.agg #[.slice a n c, .int .i64 s], .int .i64 i] w fun e w' => ∃ y, e = .returned (.tuple #[y, .int .i64 0]) ∧ Bytes w' y bs ∧ Still w w' := by
  obtain ⟨b, o, y, rfl, hc, hy⟩ := h.at hi
  have hlen := h.heads.1
  have hlt : i < Ls.length := (List.getElem?_eq_some_iff.1 hi).1
  have hin := fun w => in_ok w (some ⟨b, o, none⟩) n c s i
  have hd : decide ((0 : Int) ≤ i ∧ (i : Int) < n) = true := decide_eq_true ⟨by omega, by omega⟩
  simp only [hd] at hin
  have hc1 : ∀ o1 o2, ((w.alloc o1).alloc o2).cell? ⟨b, o + i, none⟩ = some y := fun o1 o2 => cell_alloc_lt (cell_alloc_lt hc)
  have hlt' : (i : Int) < (n : Int) := by omega
  have hfin : ∀ o1 o2, Bytes ((w.alloc o1).alloc o2) y bs ∧ Still w ((w.alloc o1).alloc o2) := fun o1 o2 => by
    have hs : Still w ((w.alloc o1).alloc o2) := (Chg.alloc _ w o1).trans (Chg.alloc _ _ o2)
    exact ⟨hy.chg hs (fun _ _ _ h => h), hs⟩
  clear h hi hd hlen
  go_enter Try.func26, Try.ntmps26
  go_wp2_with (go_at_call 31; refine (hin _).mono ?_; rintro e w' ⟨rfl, o2, rfl⟩)
  go_ret2
  exact ⟨_, rfl, hfin _ _⟩
theorem rlook_bad (w : World) (a : Option Addr) (n c : Nat) (s i : Int) (hi : i < 0 ∨ (n : Int) ≤ i) :
    Calls Try.prog 26 #[.agg #[.slice a n c, .int .i64 s], .int .i64 i] w fun e w' => e = .returned (.tuple #[.slice none 0 0, .int .i64 4]) ∧ Still w w' := by
  have hin := fun w => in_ok w a n c s i
  have hd : decide ((0 : Int) ≤ i ∧ (i : Int) < n) = false := decide_eq_false (by omega)
  simp only [hd] at hin
  have hs : ∀ o1 o2, Still w ((w.alloc o1).alloc o2) := fun o1 o2 => (Chg.alloc _ w o1).trans (Chg.alloc _ _ o2)
  clear hi hd
  go_enter Try.func26, Try.ntmps26
  go_wp2_with (go_at_call 31; refine (hin _).mono ?_; rintro e w' ⟨rfl, o2, rfl⟩)
  go_ret2
  exact ⟨rfl, hs _ _⟩
theorem rsend_full (w : World) (a : Option Addr) (n c : Nat) (s : Int) (y : Value) (bs : List Int) (hy : Bytes w y bs) (hn : 512 ≤ n) (hl : bs.length ≤ 1048592) :
    Calls Try.prog 25 #[.agg #[.slice a n c, .int .i64 s], y] w fun e w' => e = .returned (.tuple #[.agg #[.slice a n c, .int .i64 s], .int .i64 9]) ∧ Still w w' := by
  obtain ⟨a2, c2, rfl, _⟩ := hy
  have h1 : ¬ ((1048592 : Int) < (bs.length : Int)) := by omega
  have h2 : (512 : Int) ≤ (n : Int) := by omega
  go_enter Try.func25, Try.ntmps25
  go_wp2
  refine bodyPost_ret (v := .tuple #[.agg #[.slice a n c, .int .i64 s], .int .i64 9]) (by rw [results_cell_tmp rfl]; go_simp) rfl ⟨rfl, ?_⟩
  exact (Chg.alloc _ w _).trans (Chg.alloc _ _ _)
end Go.Proofs.Ytjffmdfkodkidaa

namespace Go.Proofs.Ytjffmdfkodkidaa
open Go.RowKit
set_option linter.unusedVariables false
theorem still_grown {w wa wb : World} {row : Option Nat} (h : Still w wa) (hg : wa.grownBy wb row) (hr : ∀ k, row = some k → w.heap.size ≤ k) : Still w wb :=
  ⟨hg.os.trans h.os, hg.tape.trans h.tape, hg.output.trans h.output, Nat.le_trans h.size hg.size, fun k hk _ => by
    rw [hg.block k (Nat.lt_of_lt_of_le hk h.size) (fun e => by have := hr k e.symm; omega), h.block k hk (fun h => h)]⟩
/-- The reference's two boxes. -/
structure Boxes (w wi : World) (a : Option Addr) (n c : Nat) (s : Int) (r : Array Value) : Prop where
  still : Still w wi
  box : wi.heap[w.heap.size]? = some (.cells #[.slice a n c, .int .i64 s] 41 (0, 0))
  res : wi.heap[w.heap.size + 1]? = some (.cells r 41 (0, 0))
section
variable {w wi wj : World} {a : Option Addr} {n c : Nat} {s : Int} {r : Array Value}
theorem Boxes.alloc (h : Boxes w wi a n c s r) (o : Obj) : Boxes w (wi.alloc o) a n c s r :=
  ⟨h.still.trans (Chg.alloc _ _ _), (Chg.alloc (fun _ => False) wi o).at h.box (fun h => h), (Chg.alloc (fun _ => False) wi o).at h.res (fun h => h)⟩
theorem Boxes.grown (h : Boxes w wi a n c s r) {row : Option Nat} (hg : wi.grownBy wj row) (hr : ∀ k, row = some k → w.heap.size + 2 ≤ k) : Boxes w wj a n c s r := by
  refine ⟨still_grown h.still hg (fun k hk => by have := hr k hk; omega), ?_, ?_⟩
  · rw [hg.block _ (Array.getElem?_eq_some_iff.1 h.box).1 (fun e => by have := hr _ e.symm; omega), h.box]
  · rw [hg.block _ (Array.getElem?_eq_some_iff.1 h.res).1 (fun e => by have := hr _ e.symm; omega), h.res]
theorem Boxes.drew (h : Boxes w wi a n c s r) : Boxes w wi.drew a n c s r := ⟨⟨h.still.os, h.still.tape, h.still.output, h.still.size, h.still.block⟩, h.box, h.res⟩
theorem Boxes.start (w : World) (a : Option Addr) (n c : Nat) (s : Int) (r : Array Value) : Boxes w ((w.alloc (.cells #[.slice a n c, .int .i64 s] 41)).alloc (.cells r 41)) a n c s r := by
  refine ⟨(Chg.alloc _ w _).trans (Chg.alloc _ _ _), ?_, ?_⟩
  · exact (Chg.alloc (fun _ => False) _ _).at (heap_alloc_new w _) (fun h => h)
  · have := heap_alloc_new (w.alloc (.cells #[.slice a n c, .int .i64 s] 41)) (.cells r 41)
    simpa using this
theorem Boxes.cell0 (h : Boxes w wi a n c s r) : wi.cell? ⟨w.heap.size, 0, none⟩ = some (.slice a n c) := by simp [World.cell?, h.box]
theorem Boxes.cell1 (h : Boxes w wi a n c s r) : wi.cell? ⟨w.heap.size, 1, none⟩ = some (.int .i64 s) := by simp [World.cell?, h.box]
end
theorem own_fresh0 (w : World) (e : TypeId) (B : Nat) (hB : B ≤ w.heap.size) : (w.alloc (.cells #[] e)).ownsRow B e 1 (.slice (some ⟨w.heap.size, 0, none⟩) 0 0) 0 [] :=
  World.ownsRow_made w #[] 0 hB (by simp [maxLen]) rfl
def rbox (v : Value) : Array Value := #[v, .int .i64 0]
structure SendC (w w5 : World) (a : Option Addr) (n c : Nat) (s : Int) (v3 : Value) (Ls : List (List Int)) : Prop where
  bx : Boxes w w5 a n c s #[.slice none 0 0, .int .i64 0]
  ref : RefL w5 v3 Ls
  low : ∀ k, v3.ownBlock = some k → w.heap.size + 2 ≤ k
theorem SendC.done {w w5 : World} {a : Option Addr} {n c : Nat} {s : Int} {v3 : Value} {Ls : List (List Int)} (h : SendC w w5 a n c s v3 Ls) (x0 x1 : Value) :
    RefL ((w5.setCell ⟨w.heap.size + 1, 0, none⟩ x0).setCell ⟨w.heap.size + 1, 1, none⟩ x1) v3 Ls ∧ Still w ((w5.setCell ⟨w.heap.size + 1, 0, none⟩ x0).setCell ⟨w.heap.size + 1, 1, none⟩ x1) := by
  have hC : Chg (fun k => k = w.heap.size + 1) w5 ((w5.setCell ⟨w.heap.size + 1, 0, none⟩ x0).setCell ⟨w.heap.size + 1, 1, none⟩ x1) := (Chg.set w5 _ 0 x0).trans (Chg.set _ _ 1 x1)
  refine ⟨h.ref.chg hC (fun k cur hk e => ?_) (fun k hk e => by have := h.low k hk; omega), ⟨hC.os.trans h.bx.still.os, hC.tape.trans h.bx.still.tape, hC.output.trans h.bx.still.output, Nat.le_trans h.bx.still.size hC.size, fun k hk _ => ?_⟩⟩
  · subst e
    rw [h.bx.res] at hk
    simp only [Option.some.injEq, Obj.cells.injEq] at hk
    exact absurd hk.2.1 (by decide)
  · rw [hC.block k (Nat.lt_of_lt_of_le hk h.bx.still.size) (by omega), h.bx.still.block k hk (fun h => h)]
end Go.Proofs.Ytjffmdfkodkidaa

namespace Go.Proofs.Ytjffmdfkodkidaa
open Go.RowKit
set_option linter.unusedVariables false
theorem stageA {w w3 : World} {a : Option Addr} {n c : Nat} {s : Int} {v1 : Value} {Ls : List (List Int)} {ys : List Value}
    (hy : ∀ (i : Nat) (bs : List Int), Ls[i]? = some bs → ∃ y, ys[i]? = some y ∧ Bytes w y bs)
    (hown : w3.ownsRow (w.heap.size + 2) 22 1 v1 (0 + n) ([] ++ ys)) (hg : (((w.alloc (.cells #[.slice a n c, .int .i64 s] 41)).alloc (.cells #[.slice none 0 0, .int .i64 0] 41)).alloc (.cells #[] 22)).grownBy w3 (some (w.heap.size + 1 + 1))) :
    Boxes w w3 a n c s #[.slice none 0 0, .int .i64 0] ∧ w3.ownsRow (w.heap.size + 2) 22 1 v1 n ys ∧ (∀ (i : Nat) (bs : List Int), Ls[i]? = some bs → ∃ y, ys[i]? = some y ∧ Bytes w3 y bs) ∧ w.heap.size + 2 ≤ w3.heap.size := by
  have hb := ((Boxes.start w a n c s #[.slice none 0 0, .int .i64 0]).alloc (.cells #[] 22)).grown hg (fun k hk => by simp only [Option.some.injEq] at hk; omega)
  refine ⟨hb, by simpa using hown, fun i bs hi => ?_, ?_⟩
  · obtain ⟨y, h1, h2⟩ := hy i bs hi
    exact ⟨y, h1, h2.chg hb.still (fun _ _ _ h => h)⟩
  · have := hg.size
    simp at this
    omega
theorem stageB {w w3 w4 : World} {a : Option Addr} {n c : Nat} {s : Int} {v1 v2 : Value} {Ls : List (List Int)} {ys : List Value} {bs : List Int} {r : Array Value}
    (hb : Boxes w w3 a n c s r) (h1 : w3.ownsRow (w.heap.size + 2) 22 1 v1 n ys) (hy : ∀ (i : Nat) (bs : List Int), Ls[i]? = some bs → ∃ y, ys[i]? = some y ∧ Bytes w3 y bs) (hsz : w.heap.size + 2 ≤ w3.heap.size)
    (hown : w4.ownsRow (w.heap.size + 2) 5 1 v2 (0 + bs.length) ([] ++ bytesV bs)) (hg : (w3.alloc (.cells #[] 5)).grownBy w4 (some w3.heap.size)) :
    Boxes w w4 a n c s r ∧ w4.ownsRow (w.heap.size + 2) 22 1 v1 n ys ∧ (∀ (i : Nat) (bs : List Int), Ls[i]? = some bs → ∃ y, ys[i]? = some y ∧ Bytes w4 y bs) ∧ w.heap.size + 2 ≤ w4.heap.size ∧ Bytes w4 v2 bs := by
  have hst : Still w3 w4 := still_grown (Chg.alloc _ w3 _) hg (fun k hk => by simp only [Option.some.injEq] at hk; omega)
  refine ⟨(hb.alloc _).grown hg (fun k hk => by simp only [Option.some.injEq] at hk; omega), ?_, fun i bs hi => ?_, ?_, Bytes.row (by simpa using hown)⟩
  · refine World.ownsRow.kept (World.ownsRow.alloc h1 _) hg ?_
    cases hv : v1.ownBlock with
    | none => exact .inl rfl
    | some k =>
      refine .inr (fun e => ?_)
      simp only [Option.some.injEq] at e
      have := (h1.lt k hv).2
      omega
  · obtain ⟨y, g1, g2⟩ := hy i bs hi
    exact ⟨y, g1, g2.chg hst (fun _ _ _ h => h)⟩
  · have := hst.size
    omega
theorem stageC {w w4 w5 : World} {a : Option Addr} {n c : Nat} {s : Int} {v1 v2 v3 : Value} {Ls : List (List Int)} {ys : List Value} {bs : List Int}
    (hb : Boxes w w4 a n c s #[.slice none 0 0, .int .i64 0]) (h1 : w4.ownsRow (w.heap.size + 2) 22 1 v1 n ys) (hl : ys.length = Ls.length) (hy : ∀ (i : Nat) (bs : List Int), Ls[i]? = some bs → ∃ y, ys[i]? = some y ∧ Bytes w4 y bs) (hsz : w.heap.size + 2 ≤ w4.heap.size) (h2 : Bytes w4 v2 bs)
    (hown : w5.ownsRow (w.heap.size + 2) 22 1 v3 (n + 1) (ys ++ [v2])) (hg : (w4.alloc (.cells #[v2] 22)).grownBy w5 v1.ownBlock) :
    SendC w w5 a n c s v3 (Ls ++ [bs]) := by
  have hC : Chg (fun k => v1.ownBlock = some k) w4 w5 := by
    refine ⟨hg.os, hg.tape, hg.output, by have := hg.size; simp at this; omega, fun k hk hs => ?_⟩
    rw [hg.block k (by simp; omega) (Ne.symm hs), heap_alloc_old _ _ hk]
  have hT : ∀ k cur, w4.heap[k]? = some (.cells cur 5 (0, 0)) → ¬ v1.ownBlock = some k := fun k cur hk => own_ne h1 hk (by decide)
  refine ⟨(hb.alloc _).grown hg (fun k hk => (h1.lt k hk).1), RefL.row hown (by simp [hl]) (fun i bs' hi => ?_), fun k hk => (hown.lt k hk).1⟩
  by_cases h : i < Ls.length
  · rw [List.getElem?_append_left h] at hi
    obtain ⟨y, g1, g2⟩ := hy i bs' hi
    exact ⟨y, by rw [List.getElem?_append_left (by omega)]; exact g1, g2.chg hC hT⟩
  · have hi2 : i = Ls.length := by
      have := (List.getElem?_eq_some_iff.1 hi).1
      simp at this
      omega
    subst hi2
    simp at hi
    subst hi
    exact ⟨v2, by rw [← hl]; simp, h2.chg hC hT⟩
theorem one_at (w : World) (x : Value) (t : TypeId) : ∀ ad, some (⟨w.heap.size, 0, none⟩ : Addr) = some ad → ∀ (j : Nat) (u : Value), [x][j]? = some u → (w.alloc (.cells #[x] t)).cell? (ad.add j) = some u := by
  intro ad had j u h
  simp only [Option.some.injEq] at had
  subst had
  cases j with
  | zero =>
    simp only [List.getElem?_cons_zero, Option.some.injEq] at h
    subst h
    exact World.cell?_alloc_at #[x] t w.heap.size 0 rfl
  | succ j => simp at h
/-- Bytes, wherever they lie. -/
def Src (w : World) (y : Value) (bs : List Int) : Prop :=
  ∃ a c, y = .slice a bs.length c ∧ (a = none → c = 0) ∧ (0 < bs.length → ∃ p o, a = some ⟨p, o, none⟩ ∧ ∀ k, k < bs.length → w.cell? ⟨p, o + k, none⟩ = some (.int .u8 (bs.getD k 0)))
theorem Bytes.src {w : World} {y : Value} {bs : List Int} (h : Bytes w y bs) : Src w y bs := by
  obtain ⟨a, c, h1, h2, h3⟩ := h
  refine ⟨a, c, h1, h2, fun h0 => ?_⟩
  obtain ⟨p, o, cur, h4, h5, h6⟩ := h3 h0
  exact ⟨p, o, h4, fun k hk => by simp only [World.cell?, h5]; exact h6 k hk⟩
theorem still_cell {w w' : World} (h : Still w w') {ad : Addr} {x : Value} (hc : w.cell? ad = some x) : w'.cell? ad = some x := by
  have hlt : ad.block < w.heap.size := by
    apply Decidable.byContradiction
    intro hn
    have : w.heap[ad.block]? = none := Array.getElem?_eq_none (by omega)
    simp [World.cell?, this] at hc
  rw [← hc]
  simp only [World.cell?, h.block ad.block hlt (fun h => h)]
theorem Src.still {w w' : World} {y : Value} {bs : List Int} (h : Src w y bs) (hs : Still w w') : Src w' y bs := by
  obtain ⟨a, c, h1, h2, h3⟩ := h
  refine ⟨a, c, h1, h2, fun h0 => ?_⟩
  obtain ⟨p, o, h4, h6⟩ := h3 h0
  exact ⟨p, o, h4, fun k hk => still_cell hs (h6 k hk)⟩
theorem Src.reads {w : World} {y : Value} {bs : List Int} (h : Src w y bs) : Reads w y bs := by
  obtain ⟨a, c, h1, h2, h3⟩ := h
  exact ⟨a, c, h1, h3⟩
set_option maxRecDepth 10000 in
set_option maxHeartbeats 2000000 in
theorem rsend_ok (w : World) (a : Option Addr) (n c : Nat) (s : Int) (Ls : List (List Int)) (y : Value) (bs : List Int) (h : RefL w (.slice a n c) Ls) (hy : Src w y bs) (hn : n < 512) (hl : bs.length ≤ 1048592) :
    Calls Try.prog 25 #[.agg #[.slice a n c, .int .i64 s], y] w fun e w' => ∃ u', e = .returned (.tuple #[.agg #[u', .int .i64 (wrap64 (s + 1))], .int .i64 0]) ∧ RefL w' u' (Ls ++ [bs]) ∧ Still w w' ∧ ∀ k, u'.ownBlock = some k → w.heap.size ≤ k := by
  obtain ⟨hlen, hnone, ys, hyl, hread, hyb, hone⟩ := h.heads
  obtain ⟨a2, c2, rfl, hnone2, hy2⟩ := hy
  have h1 : ¬ ((1048592 : Int) < (bs.length : Int)) := by omega
  have h2 : ¬ ((512 : Int) ≤ (n : Int)) := by omega
  have hz5 : Try.t5.zero = some (.int .u8 0) := by kernel_rfl
  have hi5 : Try.prog.info? 5 = some Try.t5 := by kernel_rfl
  have hsz22 : Try.t22.size = 1 := by kernel_rfl
  have hby22 : Try.t22.bytes = 24 := by kernel_rfl
  have hz22 : Try.t22.zero = some (.slice none 0 0) := by kernel_rfl
  have hi22 : Try.prog.info? 22 = some Try.t22 := by kernel_rfl
  have hown1 : (((w.alloc (.cells #[.slice a n c, .int .i64 s] 41)).alloc (.cells #[.slice none 0 0, .int .i64 0] 41)).alloc (.cells #[] 22)).ownsRow (w.heap.size + 2) 22 1 (.slice (some ⟨w.heap.size + 1 + 1, 0, none⟩) 0 0) 0 [] := by
    have := own_fresh0 ((w.alloc (.cells #[.slice a n c, .int .i64 s] 41)).alloc (.cells #[.slice none 0 0, .int .i64 0] 41)) 22 (w.heap.size + 2) (by simp)
    simpa using this
  have hread1 : ∀ ad, a = some ad → ∀ (j : Nat) (u : Value), ys[j]? = some u → (((w.alloc (.cells #[.slice a n c, .int .i64 s] 41)).alloc (.cells #[.slice none 0 0, .int .i64 0] 41)).alloc (.cells #[] 22)).cell? (ad.add j) = some u :=
    fun ad had j u hj => cell_alloc_lt (cell_alloc_lt (cell_alloc_lt (hread ad had j u hj)))
  have hA := fun (w3 : World) (v1 : Value) => stageA (w := w) (w3 := w3) (a := a) (n := n) (c := c) (s := s) (v1 := v1) (Ls := Ls) (ys := ys) hyb
  have hbase3 : ∀ o1 o2 o3, w.heap.size + 2 ≤ (((w.alloc o1).alloc o2).alloc o3).heap.size := fun o1 o2 o3 => by rw [World.size_alloc, World.size_alloc, World.size_alloc]; omega
  have hyl' : ys.length = Ls.length := by omega
  have hnone3 : a2 = none → bs.length = 0 ∧ c2 = 0 := by
    intro ha
    refine ⟨?_, hnone2 ha⟩
    apply Decidable.byContradiction
    intro hne
    obtain ⟨p, o, he, _⟩ := hy2 (by omega)
    rw [ha] at he
    cases he
  have hrd2 : ∀ wi, Still w wi → ∀ ad, a2 = some ad → ∀ (j : Nat) (u : Value), (bytesV bs)[j]? = some u → wi.cell? (ad.add j) = some u := by
    intro wi hst ad had j u hj
    have hlt : j < bs.length := by simpa using (List.getElem?_eq_some_iff.1 hj).1
    obtain ⟨p, o, he, h4⟩ := hy2 (by omega)
    rw [had] at he
    simp only [Option.some.injEq] at he
    subst he
    have e : (⟨p, o, none⟩ : Addr).add j = ⟨p, o + j, none⟩ := by unfold Addr.add; split <;> simp_all
    rw [e, still_cell hst (h4 j hlt), ← hj]
    simp [hlt]
  clear hread h hy2 hnone2
  go_enter Try.func25, Try.ntmps25
  go_wp2_with (first
    | (at_builtin; refine wpList_append_src _ rfl (.tmp 16) (.tmp 18) 39 rfl (w.heap.size + 2) 22 Try.t22 (.slice none 0 0) 1 24 Try.underlying39 hi22 hz22 hsz22 hby22 rfl (by decide) (.slice (some ⟨w.heap.size + 1 + 1, 0, none⟩) 0 0) 0 [] (by simp [Act.eval]) hown1 a n c ys (by simp [Act.eval]) (by omega) hread1 hnone hone (by unfold maxLen; omega) (by omega) (hbase3 _ _ _) ?_; intro v1 w3 hown hgrow _; obtain ⟨B3, O3, Y3, S3⟩ := hA w3 v1 hown hgrow; clear hown hgrow hA hread1 hown1; obtain ⟨ao1, cap1, rfl⟩ := own_form O3)
    | (at_builtin; refine wpList_append_src _ rfl (.tmp 21) (.tmp 22) 22 rfl (w.heap.size + 2) 5 Try.t5 (.int .u8 0) 1 1 Try.underlying22 hi5 hz5 size5 bytes5 rfl (by decide) (.slice (some ⟨w3.heap.size, 0, none⟩) 0 0) 0 [] (by simp [Act.eval]) (own_fresh0 w3 5 _ S3) a2 bs.length c2 (bytesV bs) (by simp [Act.eval]) (by simp) (hrd2 _ (B3.still.trans (Chg.alloc _ _ _))) hnone3 (one_bytes bs) (by unfold maxLen; omega) (by omega) (by rw [World.size_alloc]; omega) ?_; intro v2 w4 hown hgrow _; obtain ⟨B4, O4, Y4, S4, V4⟩ := stageB B3 O3 Y3 S3 hown hgrow; rw [Nat.zero_add] at hown; obtain ⟨ao2, cap2, rfl⟩ := own_form hown; clear hown hgrow B3 O3 Y3 S3)
    | (at_builtin; refine wpList_append_src _ rfl (.tmp 20) (.tmp 24) 39 rfl (w.heap.size + 2) 22 Try.t22 (.slice none 0 0) 1 24 Try.underlying39 hi22 hz22 hsz22 hby22 rfl (by decide) (.slice ao1 n cap1) n ys (by simp [Act.eval]) (World.ownsRow.alloc O4 _) (some ⟨w4.heap.size, 0, none⟩) 1 1 [.slice ao2 bs.length cap2] (by simp [Act.eval]) rfl (one_at w4 _ 22) (by simp) (by simp [Value.oneCell']) (by unfold maxLen; omega) (by omega) (by rw [World.size_alloc]; omega) ?_))
  intro v3 w5 hown hgrow _
  have SC := stageC B4 O4 hyl' Y4 S4 V4 hown hgrow
  obtain ⟨ao3, cap3, rfl⟩ := own_form hown
  have hb1 := SC.bx.cell1
  have hr0 : w5.cell? ⟨w.heap.size + 1, 0, none⟩ = some (.slice none 0 0) := by simp [World.cell?, SC.bx.res]
  have hr1 : w5.cell? ⟨w.heap.size + 1, 1, none⟩ = some (.int .i64 0) := by simp [World.cell?, SC.bx.res]
  have hf0 : w5.frozen? ⟨w.heap.size + 1, 0, none⟩ = false := by simp [World.frozen?, SC.bx.res]
  have hf1 : w5.frozen? ⟨w.heap.size + 1, 1, none⟩ = false := by simp [World.frozen?, SC.bx.res]
  have HS : Hid _ := SC
  clear SC hown hgrow B4 O4 Y4 S4 V4
  go_wp2
  refine bodyPost_ret (v := .tuple #[.agg #[.slice ao3 (n + 1) cap3, .int .i64 (wrap64 (s + 1))], .int .i64 0]) (by rw [results_cell_tmp rfl]; go_simp) rfl ⟨_, rfl, ?_, ?_, ?_⟩
  · exact (HS.out.done _ _).1
  · exact (HS.out.done _ _).2
  · intro k hk
    have := HS.out.low k hk
    omega
end Go.Proofs.Ytjffmdfkodkidaa

namespace Go.Proofs.Ytjffmdfkodkidaa
open Go.RowKit
set_option linter.unusedVariables false
theorem RefL.still {w w' : World} {u : Value} {Ls : List (List Int)} (h : RefL w u Ls) (hs : Still w w') : RefL w' u Ls := h.chg hs (fun _ _ _ h => h) (fun _ _ h => h)
theorem Bytes.still {w w' : World} {y : Value} {bs : List Int} (h : Bytes w y bs) (hs : Still w w') : Bytes w' y bs := h.chg hs (fun _ _ _ h => h)
theorem still_drew (w : World) : Still w w.drew := ⟨rfl, rfl, rfl, Nat.le_refl _, fun _ _ _ => rfl⟩
theorem Boxes.still_ {w wi wj : World} {a : Option Addr} {n c : Nat} {s : Int} {r : Array Value} (h : Boxes w wi a n c s r) (hs : Still wi wj) : Boxes w wj a n c s r :=
  ⟨h.still.trans hs, hs.at h.box (fun h => h), hs.at h.res (fun h => h)⟩
theorem boxes_set {w w5 : World} {a : Option Addr} {n c : Nat} {s : Int} {u : Value} {Ls : List (List Int)} (B5 : Boxes w w5 a n c s #[.slice none 0 0, .int .i64 0]) (hR : RefL w5 u Ls) (hlow : ∀ k, u.ownBlock = some k → k ≠ w.heap.size + 1) (x0 x1 : Value) :
    RefL ((w5.setCell ⟨w.heap.size + 1, 0, none⟩ x0).setCell ⟨w.heap.size + 1, 1, none⟩ x1) u Ls ∧ Still w ((w5.setCell ⟨w.heap.size + 1, 0, none⟩ x0).setCell ⟨w.heap.size + 1, 1, none⟩ x1) := by
  have hC : Chg (fun k => k = w.heap.size + 1) w5 ((w5.setCell ⟨w.heap.size + 1, 0, none⟩ x0).setCell ⟨w.heap.size + 1, 1, none⟩ x1) := (Chg.set w5 _ 0 x0).trans (Chg.set _ _ 1 x1)
  refine ⟨hR.chg hC (fun k cur hk e => ?_) (fun k hk e => hlow k hk e), ⟨hC.os.trans B5.still.os, hC.tape.trans B5.still.tape, hC.output.trans B5.still.output, Nat.le_trans B5.still.size hC.size, fun k hk _ => ?_⟩⟩
  · subst e
    rw [B5.res] at hk
    simp only [Option.some.injEq, Obj.cells.injEq] at hk
    exact absurd hk.2.1 (by decide)
  · rw [hC.block k (Nat.lt_of_lt_of_le hk B5.still.size) (by omega), B5.still.block k hk (fun h => h)]
set_option maxRecDepth 10000 in
set_option maxHeartbeats 2000000 in
theorem rdouble_ok (w : World) (a : Option Addr) (n c : Nat) (s : Int) (Ls : List (List Int)) (i : Nat) (bs : List Int) (h : RefL w (.slice a n c) Ls) (hi : Ls[i]? = some bs) (hn : n < 512) (hl : bs.length ≤ 1048592) :
    Calls Try.prog 28 #[.agg #[.slice a n c, .int .i64 s], .int .i64 i] w fun e w' => ∃ u', e = .returned (.tuple #[.agg #[u', .int .i64 (wrap64 (s + 1))], .int .i64 0]) ∧ RefL w' u' (Ls ++ [bs]) ∧ Still w w' ∧ ∀ k, u'.ownBlock = some k → w.heap.size ≤ k := by
  have hlen := h.heads.1
  have hlt : i < Ls.length := (List.getElem?_eq_some_iff.1 hi).1
  have hin := fun w => in_ok w a n c s i
  have hd : decide ((0 : Int) ≤ i ∧ (i : Int) < n) = true := decide_eq_true ⟨by omega, by omega⟩
  simp only [hd] at hin
  have hlt' : (i : Int) < (n : Int) := by omega
  go_enter Try.func28, Try.ntmps28
  go_wp2_with (go_at_call 31; refine (hin _).mono ?_; rintro e w' ⟨rfl, o2, rfl⟩)
  have B1 : Boxes w (((w.alloc (.cells #[.slice a n c, .int .i64 s] 41)).alloc (.cells #[.slice none 0 0, .int .i64 0] 41)).alloc o2) a n c s #[.slice none 0 0, .int .i64 0] := (Boxes.start w a n c s _).alloc o2
  have hsz : w.heap.size + 2 < (((w.alloc (.cells #[.slice a n c, .int .i64 s] 41)).alloc (.cells #[.slice none 0 0, .int .i64 0] 41)).alloc o2).heap.size := by rw [World.size_alloc, World.size_alloc, World.size_alloc]; omega
  generalize ((w.alloc (.cells #[.slice a n c, .int .i64 s] 41)).alloc (.cells #[.slice none 0 0, .int .i64 0] 41)).alloc o2 = W1 at *
  have R1 := h.still B1.still
  obtain ⟨b, o, y, rfl, hcy, hY⟩ := R1.at hi
  have hsend := rsend_ok W1.drew (some ⟨b, o, none⟩) n c s Ls y bs (R1.still (still_drew _)) (hY.still (still_drew _)).src hn hl
  have hb0 := B1.cell0
  have hb1 := B1.cell1
  clear h hi hd hlen hin
  go_region_law (go_simp; go_at_call 25; refine hsend.mono ?_; rintro e w5 ⟨u', rfl, R5, S5, L5⟩; obtain ⟨a5, c5, he5, _⟩ := id R5; subst he5; have B5 : Boxes w w5 (some ⟨b, o, none⟩) n c s #[.slice none 0 0, .int .i64 0] := B1.still_ ((still_drew _).trans S5); have hr0 : w5.cell? ⟨w.heap.size + 1, 0, none⟩ = some (.slice none 0 0) := (by simp [World.cell?, B5.res]); have hr1 : w5.cell? ⟨w.heap.size + 1, 1, none⟩ = some (.int .i64 0) := (by simp [World.cell?, B5.res]); have hf0 : w5.frozen? ⟨w.heap.size + 1, 0, none⟩ = false := (by simp [World.frozen?, B5.res]); have hf1 : w5.frozen? ⟨w.heap.size + 1, 1, none⟩ = false := (by simp [World.frozen?, B5.res]))
  all_goals go_wp2
  all_goals (
    refine bodyPost_ret (v := .tuple #[.agg #[.slice a5 (Ls ++ [bs]).length c5, .int .i64 (wrap64 (s + 1))], .int .i64 0]) (by rw [results_cell_tmp rfl]; go_simp) rfl ⟨_, rfl, ?_, ?_, ?_⟩
    · exact (boxes_set B5 R5 (fun k hk e => by have := L5 k hk; simp only [World.drew] at this; omega) _ _).1
    · exact (boxes_set B5 R5 (fun k hk e => by have := L5 k hk; simp only [World.drew] at this; omega) _ _).2
    · intro k hk
      have := L5 k hk
      simp only [World.drew] at this
      omega)
end Go.Proofs.Ytjffmdfkodkidaa

namespace Go.Proofs.Ytjffmdfkodkidaa
open Go.RowKit
set_option linter.unusedVariables false
theorem boxes_own (w : World) {wi wj : World} {a : Option Addr} {n c : Nat} {s : Int} {r : Array Value} (h : Boxes w wi a n c s r) {v : Value} {m : Nat} {xs : List Value} {B : Nat} (hB : w.heap.size + 2 ≤ B) (ho : wi.ownsRow B 22 1 v m xs) (hg : wi.grownBy wj v.ownBlock) : Boxes w wj a n c s r :=
  h.grown hg (fun k hk => Nat.le_trans hB (ho.lt k hk).1)
section
variable (w : World) (a : Option Addr) (n c : Nat) (s i : Int)
theorem rdrop_bad (hi : i < 0 ∨ (n : Int) ≤ i) : Calls Try.prog 27 #[.agg #[.slice a n c, .int .i64 s], .int .i64 i] w fun e w' => e = .returned (.tuple #[.agg #[.slice a n c, .int .i64 s], .int .i64 4]) ∧ Still w w' := by
  have hin := fun w => in_ok w a n c s i
  have hd : decide ((0 : Int) ≤ i ∧ (i : Int) < n) = false := decide_eq_false (by omega)
  simp only [hd] at hin
  clear hi hd
  go_enter Try.func27, Try.ntmps27
  go_wp2_with (go_at_call 31; refine (hin _).mono ?_; rintro e w' ⟨rfl, o2, rfl⟩; have B1 := (Boxes.start w a n c s #[.slice none 0 0, .int .i64 0]).alloc o2; generalize ((w.alloc (.cells #[.slice a n c, .int .i64 s] 41)).alloc (.cells #[.slice none 0 0, .int .i64 0] 41)).alloc o2 = W1 at *; have hb0 := B1.cell0; have hb1 := B1.cell1; have hr0 : W1.cell? ⟨w.heap.size + 1, 0, none⟩ = some (.slice none 0 0) := (by simp [World.cell?, B1.res]); have hr1 : W1.cell? ⟨w.heap.size + 1, 1, none⟩ = some (.int .i64 0) := (by simp [World.cell?, B1.res]); have hf0 : W1.frozen? ⟨w.heap.size + 1, 0, none⟩ = false := (by simp [World.frozen?, B1.res]); have hf1 : W1.frozen? ⟨w.heap.size + 1, 1, none⟩ = false := (by simp [World.frozen?, B1.res]))
  refine bodyPost_ret (v := .tuple #[.agg #[.slice a n c, .int .i64 s], .int .i64 4]) (by rw [results_cell_tmp rfl]; go_simp) rfl ⟨rfl, ?_⟩
  exact (boxes_set B1 (RefL.nil W1) (fun k hk => by cases hk) _ _).2
theorem rdouble_bad (hi : i < 0 ∨ (n : Int) ≤ i) : Calls Try.prog 28 #[.agg #[.slice a n c, .int .i64 s], .int .i64 i] w fun e w' => e = .returned (.tuple #[.agg #[.slice a n c, .int .i64 s], .int .i64 4]) ∧ Still w w' := by
  have hin := fun w => in_ok w a n c s i
  have hd : decide ((0 : Int) ≤ i ∧ (i : Int) < n) = false := decide_eq_false (by omega)
  simp only [hd] at hin
  clear hi hd
  go_enter Try.func28, Try.ntmps28
  go_wp2_with (go_at_call 31; refine (hin _).mono ?_; rintro e w' ⟨rfl, o2, rfl⟩; have B1 := (Boxes.start w a n c s #[.slice none 0 0, .int .i64 0]).alloc o2; generalize ((w.alloc (.cells #[.slice a n c, .int .i64 s] 41)).alloc (.cells #[.slice none 0 0, .int .i64 0] 41)).alloc o2 = W1 at *; have hb0 := B1.cell0; have hb1 := B1.cell1; have hr0 : W1.cell? ⟨w.heap.size + 1, 0, none⟩ = some (.slice none 0 0) := (by simp [World.cell?, B1.res]); have hr1 : W1.cell? ⟨w.heap.size + 1, 1, none⟩ = some (.int .i64 0) := (by simp [World.cell?, B1.res]); have hf0 : W1.frozen? ⟨w.heap.size + 1, 0, none⟩ = false := (by simp [World.frozen?, B1.res]); have hf1 : W1.frozen? ⟨w.heap.size + 1, 1, none⟩ = false := (by simp [World.frozen?, B1.res]))
  refine bodyPost_ret (v := .tuple #[.agg #[.slice a n c, .int .i64 s], .int .i64 4]) (by rw [results_cell_tmp rfl]; go_simp) rfl ⟨rfl, ?_⟩
  exact (boxes_set B1 (RefL.nil W1) (fun k hk => by cases hk) _ _).2
end
end Go.Proofs.Ytjffmdfkodkidaa

