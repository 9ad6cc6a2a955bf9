/- The seat's tables and runs, for the evaluator; no condition. -/
import Derived.Test.YtjffmdfkodkidaaLook
import Derived.Test.YtjffmdfkodkidaaLight
import Derived.LoopTactic
import Derived.BigQuiet
import Derived.Deep.QuietTactic
import Derived.Test.YtjffmdfkodkidaaNilsW
set_option linter.unusedSimpArgs false
set_option linter.unusedVariables false
set_option linter.unusedSectionVars false
set_option linter.deprecated false
namespace Go.Proofs.Ytjffmdfkodkidaa
open Go.RowKit
set_option linter.unusedVariables false

def over (cur : Array Value) : Nat → List Value → Array Value
  | _, [] => cur
  | o, v :: r => over (cur.setIfInBounds o v) (o + 1) r
theorem setCells_heap (b : Nat) (t : TypeId) (fr : Nat × Nat) : ∀ (vs : List Value) (o : Nat) (w : World) (cur : Array Value), w.heap[b]? = some (.cells cur t fr) → (w.setCells b o vs).heap[b]? = some (.cells (over cur o vs) t fr)
  | [], _, _, _, h => h
  | v :: r, o, w, cur, h => by
    rw [World.setCells, over]
    exact setCells_heap b t fr r (o + 1) _ _ (by rw [setCell_eq_setRow w b o cur t fr v h]; exact setRow_heap w b _ _ t _ h)
theorem over_list : ∀ (vs : List Value) (o : Nat) (cur : Array Value), o + vs.length ≤ cur.size → (over cur o vs).toList = cur.toList.take o ++ (vs ++ cur.toList.drop (o + vs.length))
  | [], o, cur, h => by simp [over]
  | v :: r, o, cur, h => by
    simp only [List.length_cons] at h
    rw [over, over_list r (o + 1) _ (by simp; omega), Array.toList_setIfInBounds]
    have ho : o < cur.toList.length := by simp; omega
    rw [List.take_add_one, List.take_set_of_le (by omega), List.drop_set_of_lt (by omega)]
    simp only [List.getElem?_set_self ho, Option.toList_some, List.append_assoc, List.cons_append, List.nil_append, List.length_cons]
    rw [show o + 1 + r.length = o + (r.length + 1) from by omega]
theorem size_over : ∀ (vs : List Value) (o : Nat) (cur : Array Value), (over cur o vs).size = cur.size
  | [], _, _ => rfl
  | v :: r, o, cur => by rw [over, size_over r]; simp

theorem clear_one (w : World) (g o c : Nat) (cur : Array Value) (h : w.heap[g]? = some (.cells cur 22 (0, 0))) (ho : o < cur.size) :
    (Builtin.clear_ #[39] 0 #[.slice (some ⟨g, o, none⟩) 1 c]).run Try.prog w = .ok (.tuple #[]) (w.setRow g (cur.toList.take o ++ ([Value.slice none 0 0] ++ cur.toList.drop (o + 1))).toArray) := by
  have hz22 : Try.t22.zero = some (.slice none 0 0) := by kernel_rfl
  have hi22 : Try.prog.info? 22 = some Try.t22 := by kernel_rfl
  have hst := run_storeCells_at Try.prog g o 22 [.slice none 0 0] 0 cur w h (by simp; omega) (by simp [Value.oneCell'])
  have hzc : (Builtin.zeroCells (Value.slice none 0 0).cells 1).toList = [.slice none 0 0] := by kernel_rfl
  simp only [Nat.add_zero, List.length_singleton, List.append_assoc] at hst
  simp [Builtin.clear_, Try.underlying39, zeroValue, typeInfo, hi22, hz22, underlying, hzc, hst]
structure Deleted (g cap i m : Nat) (cur : Array Value) (w w' : World) : Prop where
  at_ : ∃ cur', w'.heap[g]? = some (.cells cur' 22 (0, 0)) ∧ cur'.size = cap ∧ cur'.toList.take (i + m) = cur.toList.take i ++ (cur.toList.drop (i + 1)).take m
  chg : Chg (fun k => k = g) w w'
theorem size_setCells' (b : Nat) : ∀ (vs : List Value) (o : Nat) (w : World), (w.setCells b o vs).heap.size = w.heap.size
  | [], _, _ => rfl
  | v :: r, o, w => by rw [World.setCells, size_setCells' b r]; simp [World.setCell]
theorem chg_setCells (b : Nat) (w0 : World) : ∀ (vs : List Value) (o : Nat) (w : World), Chg (fun k => k = b) w0 w → Chg (fun k => k = b) w0 (w.setCells b o vs)
  | [], _, _, h => h
  | v :: r, o, w, h => by
    rw [World.setCells]
    exact chg_setCells b w0 r (o + 1) _ ⟨h.os, h.tape, h.output, by simpa [World.setCell] using h.size, fun k hk hne => by rw [Below.heap_setCell _ _ _ _ hne]; exact h.block k hk hne⟩
theorem chg_setRow {b : Nat} {w0 w : World} (h : Chg (fun k => k = b) w0 w) (cs : Array Value) : Chg (fun k => k = b) w0 (w.setRow b cs) :=
  ⟨h.os, h.tape, h.output, by simpa [World.setRow] using h.size, fun k hk hne => by rw [setRow_other _ _ _ _ hne]; exact h.block k hk hne⟩
theorem delete_mid (w : World) (g m cap i : Nat) (cur : Array Value) (h : w.heap[g]? = some (.cells cur 22 (0, 0))) (hm0 : 0 < m) (hc : i + 1 + m ≤ cap) (hm : cap ≤ maxLen) (hs : cur.size = cap) (h1 : ∀ v ∈ cur.toList.take (i + 1 + m), v.oneCell' = true) :
    Calls Try.prog 30 #[.slice (some ⟨g, 0, none⟩) (i + 1 + m) cap, .int .i64 i, .int .i64 ((i : Int) + 1)] w fun e w' => e = .returned (.slice (some ⟨g, 0, none⟩) (i + m) cap) ∧ Deleted g cap i m cur w w' := by
  obtain ⟨n, hn⟩ : ∃ n, n = i + 1 + m := ⟨_, rfl⟩
  have hn1 : (i : Int) < (n : Int) := by omega
  have hn2 : (i : Int) + 1 ≤ (n : Int) := by omega
  have hn3 : (n : Int) ≤ (cap : Int) := by omega
  have hn4 : ((i : Int) == (i : Int) + 1) = false := by simp; omega
  have hn5 : ¬ (n = cap ∧ n = i) := by omega
  have hn6 : i ≤ cap := by omega
  have hn7 : i + 1 ≤ n := by omega
  have hn8 : ¬ (cap = i + 1) := by omega
  have hn9 : (0 : Int) ≤ (i : Int) + 1 := by omega
  have hn10 : n - (i + 1) = m := by omega
  have hn11 : ((i + m : Nat) : Int) ≤ (n : Int) := by omega
  have hn12 : n - (i + m) = 1 := by omega
  have hn13 : i + m ≤ n := by omega
  have hn14 : n ≤ cap := by omega
  have hn15 : ¬ (cap = i + m) := by omega
  have hsz22 : Try.t22.size = 1 := by kernel_rfl
  have hi22 : Try.prog.info? 22 = some Try.t22 := by kernel_rfl
  unfold maxLen at hm
  obtain ⟨news, hnews⟩ : ∃ news, news = (cur.toList.drop (i + 1)).take m := ⟨_, rfl⟩
  have hlen : news.length = m := by rw [hnews]; simp; omega
  have hone : ∀ u ∈ news, u.oneCell' = true := fun u hu => h1 u (by rw [hnews, List.take_drop] at hu; exact List.mem_of_mem_drop hu)
  have hread : ∀ j u, news[j]? = some u → w.drew.cell? ((⟨g, i + 1, none⟩ : Addr).add j) = some u := by
    intro j u hj
    have e : (⟨g, i + 1, none⟩ : Addr).add j = ⟨g, i + 1 + j, none⟩ := by unfold Addr.add; split <;> simp_all
    rw [e]
    show w.cell? _ = _
    have hjl : j < m := by have := (List.getElem?_eq_some_iff.1 hj).1; omega
    rw [hnews, List.getElem?_take_of_lt hjl, List.getElem?_drop] at hj
    simpa [World.cell?, h] using hj
  have hspare : ∀ j, j < news.length → (w.drew.cell? ⟨g, 0 + i * 1 + j, none⟩).isSome = true ∧ w.drew.frozen? ⟨g, 0 + i * 1 + j, none⟩ = false := by
    intro j hj
    refine ⟨?_, show w.frozen? _ = false from by simp [World.frozen?, h]⟩
    show (w.cell? _).isSome = true
    simp [World.cell?, h]
    omega
  have hov : i + news.length ≤ cur.size := by omega
  have hsc := setCells_heap g 22 (0, 0) news i w.drew cur h
  have hcl := clear_one (w.drew.setCells g i news) g (i + m) (cap - (i + m)) (over cur i news) hsc (by rw [size_over]; omega)
  have hD : Deleted g cap i m cur w ((w.drew.setCells g i news).setRow g ((over cur i news).toList.take (i + m) ++ ([Value.slice none 0 0] ++ (over cur i news).toList.drop (i + m + 1))).toArray) := by
    have hol := over_list news i cur hov
    have hosz : (over cur i news).toList.length = cap := by simp [size_over, hs]
    refine ⟨⟨_, setRow_heap _ g _ _ 22 _ hsc, ?_, ?_⟩, chg_setRow (chg_setCells g w news i w.drew ⟨rfl, rfl, rfl, Nat.le_refl _, fun _ _ _ => rfl⟩) _⟩
    · simp only [List.size_toArray, List.length_append, List.length_take, List.length_drop, hosz, List.length_singleton]
      omega
    · show List.take (i + m) (List.take (i + m) (over cur i news).toList ++ ([Value.slice none 0 0] ++ List.drop (i + m + 1) (over cur i news).toList)) = _
      have e2 : (List.take i cur.toList).length = i := by simp; omega
      have t1 : List.take (i + m) (List.take i cur.toList) = List.take i cur.toList := by rw [List.take_take]; congr 1; omega
      have t2 : List.take m (news ++ List.drop (i + news.length) cur.toList) = news := by rw [List.take_append_of_le_length (by omega), List.take_of_length_le (by omega)]
      rw [List.take_append_of_le_length (by rw [List.length_take, hosz]; omega), List.take_take, Nat.min_self, hol, List.take_append, e2, t1, show i + m - i = m from by omega, t2, hnews]
  clear hnews hsc
  generalize (w.drew.setCells g i news).setRow g ((over cur i news).toList.take (i + m) ++ ([Value.slice none 0 0] ++ (over cur i news).toList.drop (i + m + 1))).toArray = w9 at hcl hD
  have hroom : i + m ≤ cap := by omega
  rw [← hn]
  clear hn hc
  go_enter Try.func30, Try.ntmps30
  go_wp2
  go_region_law (refine step_append_room rfl (.tmp 22) (.tmp 25) 39 rfl 22 Try.t22 1 Try.underlying39 hi22 hsz22 g 0 i cap (by simp [Act.eval, Act.put]) ⟨g, i + 1, none⟩ m (cap - (i + 1)) news (by simp [Act.eval, Act.put, hn10]) (by rw [hlen]; omega) hread hone hroom hspare ?_)
  all_goals go_wp2
  all_goals (go_ret; exact ⟨rfl, hD⟩)
theorem last_state (w : World) (g cap i : Nat) (cur : Array Value) (h : w.heap[g]? = some (.cells cur 22 (0, 0))) (hc : i + 1 ≤ cap) (hs : cur.size = cap) :
    Deleted g cap i 0 cur w ((w.drew.setCells g i []).setRow g (cur.toList.take i ++ ([Value.slice none 0 0] ++ cur.toList.drop (i + 1))).toArray) := by
  have hC : Chg (fun k => k = g) w w.drew := ⟨rfl, rfl, rfl, Nat.le_refl _, fun _ _ _ => rfl⟩
  refine ⟨⟨_, setRow_heap w.drew g _ _ 22 _ h, ?_, ?_⟩, chg_setRow hC _⟩
  · simp only [List.size_toArray, List.length_append, List.length_take, List.length_drop, List.length_singleton, Array.length_toList, hs]
    omega
  · show List.take (i + 0) (List.take i cur.toList ++ ([Value.slice none 0 0] ++ List.drop (i + 1) cur.toList)) = _
    rw [List.take_append_of_le_length (by simp; omega), List.take_take]
    simp
theorem delete_last1 (w : World) (g i : Nat) (cur : Array Value) (h : w.heap[g]? = some (.cells cur 22 (0, 0))) (hm : i + 1 ≤ maxLen) (hs : cur.size = i + 1) :
    Calls Try.prog 30 #[.slice (some ⟨g, 0, none⟩) (i + 1) (i + 1), .int .i64 i, .int .i64 ((i : Int) + 1)] w fun e w' => e = .returned (.slice (some ⟨g, 0, none⟩) i (i + 1)) ∧ Deleted g (i + 1) i 0 cur w w' := by
  have hcl := clear_one (w.drew.setCells g i []) g i 1 cur h (by omega)
  have hD := last_state w g (i + 1) i cur h (Nat.le_refl _) hs
  generalize (w.drew.setCells g i []).setRow g (cur.toList.take i ++ ([Value.slice none 0 0] ++ cur.toList.drop (i + 1))).toArray = w9 at hcl hD
  have hn4 : ((i : Int) == (i : Int) + 1) = false := by simp; omega
  have hn9 : (0 : Int) ≤ (i : Int) + 1 := by omega
  have hsz22 : Try.t22.size = 1 := by kernel_rfl
  have hi22 : Try.prog.info? 22 = some Try.t22 := by kernel_rfl
  unfold maxLen at hm
  have hroom : i + 0 ≤ i + 1 := by omega
  have hx1 : (i : Int) ≤ (i : Int) + 1 := by omega
  have hx2 : (i : Int) < (i : Int) + 1 := by omega
  clear h hs
  go_enter Try.func30, Try.ntmps30
  go_wp2
  go_region_law (refine step_append_room rfl (.tmp 22) (.tmp 25) 39 rfl 22 Try.t22 1 Try.underlying39 hi22 hsz22 g 0 i (i + 1) (by simp [Act.eval, Act.put]) ⟨g, 0, none⟩ 0 0 [] (by simp [Act.eval, Act.put]) (by simp) (by simp) (by simp) hroom (by simp) ?_)
  all_goals go_wp2
  all_goals (go_ret; exact ⟨rfl, hD⟩)
theorem delete_last2 (w : World) (g cap i : Nat) (cur : Array Value) (h : w.heap[g]? = some (.cells cur 22 (0, 0))) (hc : i + 1 < cap) (hm : cap ≤ maxLen) (hs : cur.size = cap) :
    Calls Try.prog 30 #[.slice (some ⟨g, 0, none⟩) (i + 1) cap, .int .i64 i, .int .i64 ((i : Int) + 1)] w fun e w' => e = .returned (.slice (some ⟨g, 0, none⟩) i cap) ∧ Deleted g cap i 0 cur w w' := by
  have hcl := clear_one (w.drew.setCells g i []) g i (cap - i) cur h (by omega)
  have hD := last_state w g cap i cur h (by omega) hs
  generalize (w.drew.setCells g i []).setRow g (cur.toList.take i ++ ([Value.slice none 0 0] ++ cur.toList.drop (i + 1))).toArray = w9 at hcl hD
  have hn4 : ((i : Int) == (i : Int) + 1) = false := by simp; omega
  have hn9 : (0 : Int) ≤ (i : Int) + 1 := by omega
  have hn3 : (i : Int) + 1 ≤ (cap : Int) := by omega
  have hn6 : i ≤ cap := by omega
  have hn8 : ¬ (cap = i + 1) := by omega
  have hn15 : ¬ (cap = i) := by omega
  have hn16 : i + 1 ≤ cap := by omega
  have hsz22 : Try.t22.size = 1 := by kernel_rfl
  have hi22 : Try.prog.info? 22 = some Try.t22 := by kernel_rfl
  unfold maxLen at hm
  have hroom : i + 0 ≤ cap := by omega
  have hx1 : (i : Int) ≤ (i : Int) + 1 := by omega
  have hx2 : (i : Int) < (i : Int) + 1 := by omega
  clear h hs hc
  go_enter Try.func30, Try.ntmps30
  go_wp2
  go_region_law (refine step_append_room rfl (.tmp 22) (.tmp 25) 39 rfl 22 Try.t22 1 Try.underlying39 hi22 hsz22 g 0 i cap (by simp [Act.eval, Act.put]) ⟨g, i + 1, none⟩ 0 (cap - (i + 1)) [] (by simp [Act.eval, Act.put]) (by simp) (by simp) (by simp) hroom (by simp) ?_)
  all_goals go_wp2
  all_goals (go_ret; exact ⟨rfl, hD⟩)
/-- slices.Delete of one element. -/
theorem delete_ok (w : World) (g n cap i : Nat) (cur : Array Value) (h : w.heap[g]? = some (.cells cur 22 (0, 0))) (hi : i < n) (hc : n ≤ cap) (hm : cap ≤ maxLen) (hs : cur.size = cap) (h1 : ∀ v ∈ cur.toList.take n, v.oneCell' = true) :
    Calls Try.prog 30 #[.slice (some ⟨g, 0, none⟩) n cap, .int .i64 i, .int .i64 ((i : Int) + 1)] w fun e w' => e = .returned (.slice (some ⟨g, 0, none⟩) (n - 1) cap) ∧ Deleted g cap i (n - 1 - i) cur w w' := by
  obtain ⟨m, rfl⟩ : ∃ m, n = i + 1 + m := ⟨n - (i + 1), by omega⟩
  rw [show i + 1 + m - 1 = i + m from by omega, show i + m - i = m from by omega]
  by_cases h0 : m = 0
  · subst h0
    by_cases h2 : cap = i + 1
    · subst h2
      exact delete_last1 w g i cur h hm hs
    · exact delete_last2 w g cap i cur h (by omega) hm hs
  · exact delete_mid w g m cap i cur h (by omega) hc hm hs h1
end Go.Proofs.Ytjffmdfkodkidaa

namespace Go.Proofs.Ytjffmdfkodkidaa
open Go.RowKit
set_option linter.unusedVariables false
theorem heap_set1 (w : World) (bm : Nat) (v v0 s : Value) (h : w.heap[bm]? = some (.cells #[v0, s] 50 (0, 0))) : (w.setCell ⟨bm, 0, none⟩ v).heap[bm]? = some (.cells #[v, s] 50 (0, 0)) := by
  simp [World.setCell, Array.getElem?_modify, h]
theorem drop_state {B : Nat} {w w1 : World} {bm g cap i : Nat} {cur : Array Value} {L : List (Nat × List Int)} {sent : Int} (H : Net B w bm (.slice (some ⟨g, 0, none⟩) L.length cap) L sent) (hi : i < L.length)
    (hB : B ≤ g) (hcap : L.length ≤ cap) (hmax : cap ≤ maxLen) (ht : cur.toList.take L.length = L.map fun x => hdr x.1 x.2.length) (hD : Deleted g cap i (L.length - 1 - i) cur w w1) :
    Net B (w1.setCell ⟨bm, 0, none⟩ (.slice (some ⟨g, 0, none⟩) (L.length - 1) cap)) bm (.slice (some ⟨g, 0, none⟩) (L.length - 1) cap) (L.eraseIdx i) sent ∧
      Chg (netS bm (.slice (some ⟨g, 0, none⟩) L.length cap)) w (w1.setCell ⟨bm, 0, none⟩ (.slice (some ⟨g, 0, none⟩) (L.length - 1) cap)) := by
  obtain ⟨⟨cur', h1, h2, h3⟩, hC⟩ := hD
  have hne : bm ≠ g := fun e => H.nm (by simp [Value.ownBlock, e])
  have hbm : w1.heap[bm]? = some (.cells #[.slice (some ⟨g, 0, none⟩) L.length cap, .int .i64 sent] 50 (0, 0)) := by
    rw [hC.block bm (Array.getElem?_eq_some_iff.1 H.me).1 hne, H.me]
  refine ⟨⟨H.base, heap_set1 _ _ _ _ _ hbm, ⟨by simp [List.length_eraseIdx, hi], .inr ⟨g, cap, cur', by simp [List.length_eraseIdx, hi], hB, ?_, ?_, hmax, by simpa using h2, ?_⟩⟩, ?_, ?_⟩, ⟨hC.os, hC.tape, hC.output, by simpa [World.setCell] using hC.size, ?_⟩⟩
  · rw [Below.heap_setCell _ _ _ _ (Ne.symm hne), h1]
  · simp [List.length_eraseIdx, hi]; omega
  · have e1 : (L.eraseIdx i).length * 1 = i + (L.length - 1 - i) := by simp [List.length_eraseIdx, hi]; omega
    rw [e1, h3, List.eraseIdx_eq_take_drop_succ, List.map_append, List.map_take, List.map_drop, ← ht, List.take_take, Nat.min_eq_left (by omega), List.drop_take]
    congr 2
    omega
  · intro x hx
    have hx := List.mem_of_mem_eraseIdx hx
    refine ⟨(H.pk x hx).low, ?_⟩
    rw [Below.heap_setCell _ _ _ _ (H.ne hx), hC.block _ (Array.getElem?_eq_some_iff.1 (H.pk x hx).at_).1 (fun e => H.nl hx (by simp [Value.ownBlock, e])), (H.pk x hx).at_]
  · have := H.size
    have := hC.size
    simp [World.setCell]
    omega
  · intro k hk hs
    rw [Below.heap_setCell _ _ _ _ (fun e => hs (.inl e)), hC.block k hk (fun e => hs (.inr (by simp [Value.ownBlock, e])))]
section
variable {B : Nat} {w : World} {bm : Nat} {v : Value} {L : List (Nat × List Int)} {sent : Int}
theorem drop_ok (H : Net B w bm v L sent) (i : Nat) (hi : i < L.length) (hmx : L.length ≤ 9223372036854775806) : Calls Try.prog 22 #[.pointer (some ⟨bm, 0, none⟩), .int .i64 i] w fun e w' =>
    e = .returned (.int .i64 0) ∧ ∃ v', Net B w' bm v' (L.eraseIdx i) sent ∧ Chg (netS bm v) w w' := by
  have hm := may_ok H i hi
  rcases H.row.2 with ⟨rfl, h0⟩ | ⟨g, cap, cur, rfl, hB, hg, hn, hmax, hsz, ht⟩
  · omega
  simp only [Nat.mul_one] at hsz ht
  have hdel := delete_ok w g L.length cap i cur hg hi hn hmax hsz (by
    rw [ht]
    intro u hu
    obtain ⟨x, _, rfl⟩ := List.mem_map.1 hu
    rfl)
  have hst := fun w1 (hD : Deleted g cap i (L.length - 1 - i) cur w w1) => drop_state H hi hB hn hmax ht hD
  have hc0 : w.cell? ⟨bm, 0, none⟩ = some (.slice (some ⟨g, 0, none⟩) L.length cap) := by simp [World.cell?, H.me]
  have hnew : ∀ w1, Deleted g cap i (L.length - 1 - i) cur w w1 → w1.cell? ⟨bm, 0, none⟩ = some (.slice (some ⟨g, 0, none⟩) L.length cap) ∧ w1.frozen? ⟨bm, 0, none⟩ = false := by
    intro w1 hD
    have hne : bm ≠ g := fun e => H.nm (by simp [Value.ownBlock, e])
    have : w1.heap[bm]? = some (.cells #[.slice (some ⟨g, 0, none⟩) L.length cap, .int .i64 sent] 50 (0, 0)) := by
      rw [hD.chg.block bm (Array.getElem?_eq_some_iff.1 H.me).1 hne, H.me]
    exact ⟨by simp [World.cell?, this], by simp [World.frozen?, this]⟩
  have hx1 : (i : Int) + 1 ≤ 9223372036854775807 := by omega
  clear hn hmax hsz ht hg H
  go_enter Try.func22, Try.ntmps22
  go_wp2_with (first | (go_at_call 24; refine hm.mono ?_; rintro e w' ⟨rfl, rfl⟩) | (go_at_call 30; refine hdel.mono ?_; rintro e w1 ⟨rfl, hD⟩; obtain ⟨hs0, hs1⟩ := hnew w1 hD; have hfin := hst w1 hD; clear hD))
  go_ret
  exact ⟨rfl, _, hfin⟩
theorem drop_bad (H : Net B w bm v L sent) (i : Int) (hi : i < 0 ∨ L.length ≤ i) : Calls Try.prog 22 #[.pointer (some ⟨bm, 0, none⟩), .int .i64 i] w fun e w' => e = .returned (.int .i64 4) ∧ w' = w := by
  have hm := may_bad H i hi
  clear hi
  go_enter Try.func22, Try.ntmps22
  go_wp2_with (go_at_call 24; refine hm.mono ?_; rintro e w' ⟨rfl, rfl⟩)
  go_ret
  exact ⟨rfl, rfl⟩
end
end Go.Proofs.Ytjffmdfkodkidaa

namespace Go.Proofs.Ytjffmdfkodkidaa
open Go.RowKit
set_option linter.unusedVariables false
theorem Chg.trans {S : Nat → Prop} {a b c : World} (h : Chg S a b) (k : Chg S b c) : Chg S a c :=
  ⟨k.os.trans h.os, k.tape.trans h.tape, k.output.trans h.output, Nat.le_trans h.size k.size, fun i hi hs => (k.block i (Nat.lt_of_lt_of_le hi h.size) hs).trans (h.block i hi hs)⟩
theorem Chg.alloc (S : Nat → Prop) (w : World) (o : Obj) : Chg S w (w.alloc o) := ⟨rfl, rfl, rfl, by simp, fun k hk _ => heap_alloc_old w o hk⟩
theorem Chg.refl (S : Nat → Prop) (w : World) : Chg S w w := ⟨rfl, rfl, rfl, Nat.le_refl _, fun _ _ _ => rfl⟩
theorem Chg.at {S : Nat → Prop} {w w' : World} (h : Chg S w w') {k : Nat} {o : Obj} (hk : w.heap[k]? = some o) (hs : ¬ S k) : w'.heap[k]? = some o := by
  rw [h.block k (Array.getElem?_eq_some_iff.1 hk).1 hs, hk]
theorem Net.alloc' {B : Nat} {w : World} {bm : Nat} {v : Value} {L : List (Nat × List Int)} {sent : Int} (H : Net B w bm v L sent) (o : Obj) : Net B (w.alloc o) bm v L sent := by
  have hold : ∀ k x, w.heap[k]? = some x → (w.alloc o).heap[k]? = some x := fun k x h => by
    rw [heap_alloc_old w o (Array.getElem?_eq_some_iff.1 h).1, h]
  exact ⟨H.base, hold _ _ H.me, World.ownsRow.alloc H.row o, fun x hx => ⟨(H.pk x hx).low, hold _ _ (H.pk x hx).at_⟩, by have := H.size; simp; omega⟩
section
variable {B : Nat} {w : World} {bm : Nat} {v : Value} {L : List (Nat × List Int)} {sent : Int}
/-- What is new is none of the network's own. -/
theorem Net.fresh (H : Net B w bm v L sent) {k : Nat} (hk : w.heap.size ≤ k) : ¬ netS bm v k := by
  rintro (rfl | hv)
  · have := (Array.getElem?_eq_some_iff.1 H.me).1; omega
  · have := (H.row.lt k hv).2; omega
theorem take_ok (H : Net B w bm v L sent) (i : Nat) (x : Nat × List Int) (hx : L[i]? = some x) (hl : x.2.length ≤ 281474976710656) (hmx : L.length ≤ 9223372036854775806) :
    Calls Try.prog 13 #[.pointer (some ⟨bm, 0, none⟩), .int .i64 i] w fun e w' => e = .returned (.tuple #[hdr w.heap.size x.2.length, .int .i64 0]) ∧
      ∃ v', Net B w' bm v' (L.eraseIdx i) sent ∧ Chg (netS bm v) w w' ∧ w'.heap[w.heap.size]? = some (.cells (bytesV x.2).toArray 5 (0, 0)) := by
  have hi : i < L.length := (List.getElem?_eq_some_iff.1 hx).1
  have h1 := look_ok H i x hx hl
  have h2 := drop_ok (H.alloc' (.cells (bytesV x.2).toArray 5)) i hi hmx
  have hfin : ∀ w' v', Net B w' bm v' (L.eraseIdx i) sent → Chg (netS bm v) (w.alloc (.cells (bytesV x.2).toArray 5)) w' → Net B w' bm v' (L.eraseIdx i) sent ∧ Chg (netS bm v) w w' ∧ w'.heap[w.heap.size]? = some (.cells (bytesV x.2).toArray 5 (0, 0)) :=
    fun w' v' g1 g2 => ⟨g1, (Chg.alloc _ w _).trans g2, g2.at (heap_alloc_new w _) (H.fresh (Nat.le_refl _))⟩
  clear hx
  go_enter Try.func13, Try.ntmps13
  go_wp2_with (first | (go_at_call 11; refine h1.mono ?_; rintro e w' ⟨rfl, rfl⟩) | (go_at_call 22; refine h2.mono ?_; rintro e w' ⟨rfl, v', g1, g2⟩; have hf := hfin w' v' g1 g2; clear g1 g2))
  go_ret2
  exact ⟨rfl, _, hf⟩
theorem take_bad (H : Net B w bm v L sent) (i : Int) (hi : i < 0 ∨ L.length ≤ i) : Calls Try.prog 13 #[.pointer (some ⟨bm, 0, none⟩), .int .i64 i] w fun e w' => e = .returned (.tuple #[.slice none 0 0, .int .i64 4]) ∧ w' = w := by
  have h1 := look_bad H i hi
  clear hi
  go_enter Try.func13, Try.ntmps13
  go_wp2_with (go_at_call 11; refine h1.mono ?_; rintro e w' ⟨rfl, rfl⟩)
  go_ret2
  exact ⟨rfl, rfl⟩
theorem bytes_at (w : World) (bs : List Int) : ∀ j u, (bytesV bs)[j]? = some u → (w.alloc (.cells (bytesV bs).toArray 5)).cell? ((⟨w.heap.size, 0, none⟩ : Addr).add j) = some u := by
  intro j u hj
  rw [addr_add, World.cell?_alloc_at _ _ _ _ rfl]
  simpa using hj
theorem double_ok (H : Net B w bm v L sent) (i : Nat) (x : Nat × List Int) (hx : L[i]? = some x) (hl : x.2.length ≤ 1048592) (hL : L.length < 512) :
    Calls Try.prog 10 #[.pointer (some ⟨bm, 0, none⟩), .int .i64 i] w fun e w' => e = .returned (.int .i64 0) ∧ ∃ v' p, w.heap.size ≤ p ∧ Net B w' bm v' (L ++ [(p, x.2)]) (wrap64 (sent + 1)) ∧ Chg (netS bm v) w w' := by
  have h1 := look_ok H i x hx (by omega)
  have h2 := send_new B (w.alloc (.cells (bytesV x.2).toArray 5)) bm v L sent (H.alloc' _) hL (some ⟨w.heap.size, 0, none⟩) x.2.length x.2.length x.2 rfl hl (fun _ => ⟨_, rfl, bytes_at w x.2⟩)
  have hfin : ∀ w' v' p, Net B w' bm v' (L ++ [(p, x.2)]) (wrap64 (sent + 1)) → Chg (netS bm v) (w.alloc (.cells (bytesV x.2).toArray 5)) w' → Net B w' bm v' (L ++ [(p, x.2)]) (wrap64 (sent + 1)) ∧ Chg (netS bm v) w w' :=
    fun w' v' p g1 g2 => ⟨g1, (Chg.alloc _ w _).trans g2⟩
  clear hx
  go_enter Try.func10, Try.ntmps10
  go_wp2_with (first | (go_at_call 11; refine h1.mono ?_; rintro e w' ⟨rfl, rfl⟩) | (go_at_call 9; refine h2.mono ?_; rintro e w' ⟨rfl, v', p, g0, g1, g2⟩; have hf := hfin w' v' p g1 g2; have hp : w.heap.size ≤ p := Nat.le_trans (by simp) g0; clear g0 g1 g2))
  go_ret
  exact ⟨rfl, _, _, hp, hf⟩
theorem double_full (H : Net B w bm v L sent) (i : Nat) (x : Nat × List Int) (hx : L[i]? = some x) (hl : x.2.length ≤ 1048592) (hL : 512 ≤ L.length) :
    Calls Try.prog 10 #[.pointer (some ⟨bm, 0, none⟩), .int .i64 i] w fun e w' => e = .returned (.int .i64 9) ∧ w' = w.alloc (.cells (bytesV x.2).toArray 5) := by
  have h1 := look_ok H i x hx (by omega)
  have h2 := send_full (H.alloc' (.cells (bytesV x.2).toArray 5)) hL (some ⟨w.heap.size, 0, none⟩) x.2.length x.2.length hl
  clear hx
  go_enter Try.func10, Try.ntmps10
  go_wp2_with (first | (go_at_call 11; refine h1.mono ?_; rintro e w' ⟨rfl, rfl⟩) | (go_at_call 9; refine h2.mono ?_; rintro e w' ⟨rfl, rfl⟩))
  go_ret
  exact ⟨rfl, rfl⟩
theorem double_bad (H : Net B w bm v L sent) (i : Int) (hi : i < 0 ∨ L.length ≤ i) : Calls Try.prog 10 #[.pointer (some ⟨bm, 0, none⟩), .int .i64 i] w fun e w' => e = .returned (.int .i64 4) ∧ w' = w := by
  have h1 := look_bad H i hi
  clear hi
  go_enter Try.func10, Try.ntmps10
  go_wp2_with (go_at_call 11; refine h1.mono ?_; rintro e w' ⟨rfl, rfl⟩)
  go_ret
  exact ⟨rfl, rfl⟩
end
end Go.Proofs.Ytjffmdfkodkidaa

namespace Go.Proofs.Ytjffmdfkodkidaa
open Go.RowKit
set_option linter.unusedVariables false
/-- A byte that is spoilt. -/
def flip (bs : List Int) (at_ : Nat) (by_ : Int) : List Int := bs.set at_ (bits .xor .u8 (bs.getD at_ 0) by_)
theorem length_flip (bs : List Int) (at_ : Nat) (by_ : Int) : (flip bs at_ by_).length = bs.length := by simp [flip]
theorem spoil_state {B : Nat} {w : World} {bm g cap i : Nat} {L : List (Nat × List Int)} {sent : Int} (H : Net B w bm (.slice (some ⟨g, 0, none⟩) L.length cap) L sent) (hi : i < L.length) (bs : List Int) :
    Net B ((w.setCell ⟨g, i, none⟩ (hdr w.heap.size bs.length)).alloc (.cells (bytesV bs).toArray 5)) bm (.slice (some ⟨g, 0, none⟩) L.length cap) (L.set i (w.heap.size, bs)) sent ∧
      Chg (netS bm (.slice (some ⟨g, 0, none⟩) L.length cap)) w ((w.setCell ⟨g, i, none⟩ (hdr w.heap.size bs.length)).alloc (.cells (bytesV bs).toArray 5)) := by
  have hne : bm ≠ g := fun e => H.nm (by simp [Value.ownBlock, e])
  have hsz : (w.setCell ⟨g, i, none⟩ (hdr w.heap.size bs.length)).heap.size = w.heap.size := by simp [World.setCell]
  have hold : ∀ k, k < w.heap.size → k ≠ g → ((w.setCell ⟨g, i, none⟩ (hdr w.heap.size bs.length)).alloc (.cells (bytesV bs).toArray 5)).heap[k]? = w.heap[k]? := by
    intro k hk hg
    rw [heap_alloc_old _ _ (by rw [hsz]; exact hk), Below.heap_setCell _ _ _ _ hg]
  have hnew : ((w.setCell ⟨g, i, none⟩ (hdr w.heap.size bs.length)).alloc (.cells (bytesV bs).toArray 5)).heap[w.heap.size]? = some (.cells (bytesV bs).toArray 5 (0, 0)) := by
    have := heap_alloc_new (w.setCell ⟨g, i, none⟩ (hdr w.heap.size bs.length)) (.cells (bytesV bs).toArray 5)
    rwa [hsz] at this
  rcases H.row.2 with ⟨h0, _⟩ | ⟨g', cap', cur, hv, hB, hg, hn, hmax, hcs, ht⟩
  · cases h0
  · simp only [Value.slice.injEq, Option.some.injEq, Addr.mk.injEq, and_true, true_and] at hv
    obtain ⟨rfl, rfl⟩ := hv
    simp only [Nat.mul_one] at hcs ht
    have hlt := (Array.getElem?_eq_some_iff.1 hg).1
    refine ⟨⟨H.base, ?_, ⟨by simp, .inr ⟨g, cap, cur.setIfInBounds i (hdr w.heap.size bs.length), by simp, hB, ?_, by simpa using hn, hmax, by simpa using hcs, ?_⟩⟩, ?_, ?_⟩, ⟨rfl, rfl, rfl, by simp [World.setCell], ?_⟩⟩
    · rw [hold bm (Array.getElem?_eq_some_iff.1 H.me).1 hne, H.me]
    · rw [heap_alloc_old _ _ (by rw [hsz]; exact hlt), setCell_eq_setRow w g i cur 22 _ _ hg]
      exact setRow_heap w g _ _ 22 _ hg
    · simp only [List.length_set, Nat.mul_one, Array.toList_setIfInBounds, List.map_set]
      rw [List.take_set, ht]
    · intro x hx
      rcases List.mem_or_eq_of_mem_set hx with hx | rfl
      · refine ⟨(H.pk x hx).low, ?_⟩
        rw [hold _ (Array.getElem?_eq_some_iff.1 (H.pk x hx).at_).1 (fun e => H.nl hx (by simp [Value.ownBlock, e])), (H.pk x hx).at_]
      · exact ⟨H.size, hnew⟩
    · have := H.size
      simp [World.setCell]
      omega
    · intro k hk hs
      exact hold k hk (fun e => hs (.inr (by simp [Value.ownBlock, e])))
section
variable {B : Nat} {w : World} {bm : Nat} {v : Value} {L : List (Nat × List Int)} {sent : Int}
theorem spoil_ok (H : Net B w bm v L sent) (i : Nat) (x : Nat × List Int) (hx : L[i]? = some x) (hl : x.2.length ≤ 281474976710656) (at_ : Nat) (hat : at_ < x.2.length) (by_ : Int) (hby : by_ ≠ 0) (hmx : L.length ≤ 9223372036854775806) :
    Calls Try.prog 12 #[.pointer (some ⟨bm, 0, none⟩), .int .i64 i, .int .i64 at_, .int .u8 by_] w fun e w' => e = .returned (.int .i64 0) ∧ Net B w' bm v (L.set i (w.heap.size, flip x.2 at_ by_)) sent ∧ Chg (netS bm v) w w' := by
  have hi : i < L.length := (List.getElem?_eq_some_iff.1 hx).1
  have h1 := look_ok H i x hx hl
  obtain ⟨g, cap, rfl, hc1, hc2⟩ := at_ok H hx
  have hlow := H.row.lt g rfl
  have hne : g ≠ bm := fun e => H.nm (by simp [Value.ownBlock, e])
  have hbm : bm < w.heap.size := (Array.getElem?_eq_some_iff.1 H.me).1
  have hc0 : w.cell? ⟨bm, 0, none⟩ = some (.slice (some ⟨g, 0, none⟩) L.length cap) := by simp [World.cell?, H.me]
  have hb0 : (w.alloc (.cells (bytesV x.2).toArray 5)).cell? ⟨w.heap.size, at_, none⟩ = some (.int .u8 (x.2.getD at_ 0)) := by
    rw [World.cell?_alloc_at _ _ _ _ rfl]
    simp [hat]
  have hb1 : (w.alloc (.cells (bytesV x.2).toArray 5)).frozen? ⟨w.heap.size, at_, none⟩ = false := by
    have := heap_alloc_new w (.cells (bytesV x.2).toArray 5)
    unfold World.frozen?
    rw [this]
    simp
  have hn0 : ¬ ((at_ : Int) < 0) := by omega
  have hn1 : ¬ ((x.2.length : Int) ≤ (at_ : Int)) := by omega
  have hn2 : (by_ == 0) = false := by simpa using hby
  have hn3 : (i : Int) < (L.length : Int) := by omega
  have hn4 : ¬ ((i : Int) < 0) := by omega
  have hn5 : (at_ : Int) < (x.2.length : Int) := by omega
  have hd0 : decide ((at_ : Int) < 0) = false := by simp
  have hd1 : ¬ x.2.length ≤ at_ := by omega
  have hfl : (bytesV x.2).set at_ (Value.int IntKind.u8 (bits BinOp.xor IntKind.u8 x.2[at_] by_)) = bytesV (flip x.2 at_ by_) := by
    simp [flip, List.map_set, hat]
  have hst := spoil_state H hi (flip x.2 at_ by_)
  rw [length_flip] at hst
  clear hx H
  go_enter Try.func12, Try.ntmps12
  go_wp2_with (go_at_call 11; refine h1.mono ?_; rintro e w' ⟨rfl, rfl⟩)
  all_goals first | omega | skip
  go_ret
  exact ⟨rfl, hst⟩
theorem spoil_bad (H : Net B w bm v L sent) (i : Int) (hi : i < 0 ∨ L.length ≤ i) (at_ by_ : Int) : Calls Try.prog 12 #[.pointer (some ⟨bm, 0, none⟩), .int .i64 i, .int .i64 at_, .int .u8 by_] w fun e w' => e = .returned (.int .i64 4) ∧ w' = w := by
  have h1 := look_bad H i hi
  clear hi
  go_enter Try.func12, Try.ntmps12
  go_wp2_with (go_at_call 11; refine h1.mono ?_; rintro e w' ⟨rfl, rfl⟩)
  go_ret
  exact ⟨rfl, rfl⟩
end
end Go.Proofs.Ytjffmdfkodkidaa

namespace Go.Proofs.Ytjffmdfkodkidaa
open Go.RowKit
set_option linter.unusedVariables false
def SameR (w : World) (ans : Bool) (e : Ending) (w' : World) : Prop := e = .returned (.bool ans) ∧ ∃ m, w' = w.drewN m
theorem same_len (w : World) (a a2 : Option Addr) (n c n2 c2 : Nat) (h : n ≠ n2) : Calls Try.prog 14 #[.slice a n c, .slice a2 n2 c2] w (SameR w false) := by
  have h1 : ((n : Int) == (n2 : Int)) = false := by simp; omega
  go_enter Try.func14, Try.ntmps14
  go_wp2
  go_ret
  exact ⟨rfl, 0, rfl⟩
theorem same_nil (w : World) (a a2 : Option Addr) (c c2 : Nat) : Calls Try.prog 14 #[.slice a 0 c, .slice a2 0 c2] w (SameR w true) := by
  go_enter Try.func14, Try.ntmps14
  go_wp2
  go_loop [5] (fun i => i = .int .i64 0) (fun _ => 0)
  case atStart => exact rfl
  case round =>
    subst hrel
    go_wp2
    go_ret
    exact ⟨rfl, 0, rfl⟩
theorem take_succ_eq {xs ys : List Int} {k : Nat} (h : xs.take k = ys.take k) (h1 : k < xs.length) (h2 : k < ys.length) (he : xs.getD k 0 = ys.getD k 0) : xs.take (k + 1) = ys.take (k + 1) := by
  rw [List.take_add_one, List.take_add_one, h]
  simp [List.getD, h1, h2] at he
  simp [h1, h2, he]
theorem same_some (w : World) (b1 o1 c b2 o2 c2 : Nat) (xs ys : List Int) (hl : xs.length = ys.length) (hbig : xs.length ≤ 9223372036854775807)
    (hx : ∀ k, k < xs.length → w.cell? ⟨b1, o1 + k, none⟩ = some (.int .u8 (xs.getD k 0))) (hy : ∀ k, k < ys.length → w.cell? ⟨b2, o2 + k, none⟩ = some (.int .u8 (ys.getD k 0))) :
    Calls Try.prog 14 #[.slice (some ⟨b1, o1, none⟩) xs.length c, .slice (some ⟨b2, o2, none⟩) ys.length c2] w (SameR w (decide (xs = ys))) := by
  obtain ⟨n, hn⟩ : ∃ n, n = xs.length := ⟨_, rfl⟩
  have hn2 : ys.length = n := by omega
  rw [hn2, ← hn]
  rw [← hn] at hx hbig
  rw [hn2] at hy
  have HN : Hid (n = xs.length) := hn
  have HN2 : Hid (ys.length = n) := hn2
  clear hn hn2 hl
  go_enter Try.func14, Try.ntmps14
  go_wp2
  go_loopw [5] (fun i wr => ∃ k m : Nat, k ≤ n ∧ i = .int .i64 k ∧ wr = w.drewN m ∧ Hid (xs.take k = ys.take k)) (fun i _ => n - (intOf i).toNat)
  case atStart => exact ⟨0, 0, Nat.zero_le _, rfl, rfl, (by simp : xs.take 0 = ys.take 0)⟩
  case round =>
    obtain ⟨k, m, hk, rfl, rfl, htk⟩ := hrel
    by_cases hkn : k < n
    · have hx1 : (w.drewN m).cell? ⟨b1, o1 + k, none⟩ = some (.int .u8 (xs.getD k 0)) := hx k hkn
      have hy1 : (w.drewN m).cell? ⟨b2, o2 + k, none⟩ = some (.int .u8 (ys.getD k 0)) := hy k hkn
      have hx2 : w.cell? ⟨b1, o1 + k, none⟩ = some (.int .u8 (xs.getD k 0)) := hx k hkn
      have hy2 : w.cell? ⟨b2, o2 + k, none⟩ = some (.int .u8 (ys.getD k 0)) := hy k hkn
      obtain ⟨xk, hxk⟩ : ∃ xk, xk = xs.getD k 0 := ⟨_, rfl⟩
      obtain ⟨yk, hyk⟩ : ∃ yk, yk = ys.getD k 0 := ⟨_, rfl⟩
      rw [← hxk] at hx1 hx2
      rw [← hyk] at hy1 hy2
      have HX : Hid (xk = xs.getD k 0) := hxk
      have HY : Hid (yk = ys.getD k 0) := hyk
      clear hxk hyk
      have hkn' : (k : Int) < (n : Int) := by omega
      clear hx hy
      go_wp2
      go_quiet (fail)
      go_wp2
      · have hne : (xk != yk) = true := by assumption
        go_ret
        refine ⟨?_, m + nq, by simp⟩
        have : xs ≠ ys := by
          intro e
          have h1 := HX.out
          rw [e, ← HY.out] at h1
          rw [h1] at hne
          simp at hne
        rw [decide_eq_false this]
        rfl
      · have heq : (xk != yk) = false := by assumption
        go_roundw
        case rel =>
          refine ⟨k + 1, m + nq, by omega, by go_num, rfl, ?_⟩
          have hn1 := HN.out
          have hn2 := HN2.out
          exact take_succ_eq htk.out (by omega) (by omega) (by rw [← HX.out, ← HY.out]; simpa using heq)
        case measure => simp only [intOf]; omega
    · have hge : k = n := by omega
      have hkn' : ¬ (k : Int) < (n : Int) := by omega
      have hfin : decide (xs = ys) = true := by
        have h := htk.out
        have hn1 := HN.out
        have hn2 := HN2.out
        rw [List.take_of_length_le (by omega), List.take_of_length_le (by omega)] at h
        exact decide_eq_true h
      clear hx hy htk hge
      go_wp2
      go_ret
      exact ⟨rfl, m, rfl⟩
/-- What a slice of bytes reads as. -/
def Reads (w : World) (v : Value) (bs : List Int) : Prop := ∃ a c, v = .slice a bs.length c ∧ (0 < bs.length → ∃ b o, a = some ⟨b, o, none⟩ ∧ ∀ k, k < bs.length → w.cell? ⟨b, o + k, none⟩ = some (.int .u8 (bs.getD k 0)))
theorem same_ok (w : World) (v u : Value) (xs ys : List Int) (hv : Reads w v xs) (hu : Reads w u ys) (hbig : xs.length ≤ 9223372036854775807) : Calls Try.prog 14 #[v, u] w (SameR w (decide (xs = ys))) := by
  obtain ⟨a, c, rfl, ha⟩ := hv
  obtain ⟨a2, c2, rfl, ha2⟩ := hu
  by_cases hl : xs.length = ys.length
  · by_cases h0 : xs.length = 0
    · rw [show xs = [] from List.eq_nil_of_length_eq_zero h0, show ys = [] from List.eq_nil_of_length_eq_zero (by omega)]
      exact same_nil w a a2 c c2
    · obtain ⟨b1, o1, rfl, h1⟩ := ha (by omega)
      obtain ⟨b2, o2, rfl, h2⟩ := ha2 (by omega)
      exact same_some w b1 o1 c b2 o2 c2 xs ys hl hbig h1 h2
  · rw [decide_eq_false (fun e => hl (by rw [e]))]
    exact same_len w a a2 _ c _ c2 hl
theorem Reads.block {w : World} {p : Nat} {bs : List Int} (h : w.heap[p]? = some (.cells (bytesV bs).toArray 5 (0, 0))) (n : Nat) (hn : n = bs.length) : Reads w (.slice (some ⟨p, 0, none⟩) n n) bs := by
  subst hn
  refine ⟨_, _, rfl, fun _ => ⟨p, 0, rfl, fun k hk => ?_⟩⟩
  simp [World.cell?, h, hk]
end Go.Proofs.Ytjffmdfkodkidaa

namespace Go.Proofs.Ytjffmdfkodkidaa
open Go.RowKit
set_option linter.unusedVariables false
/-- A block of bytes. -/
def Row (w : World) (p : Nat) (bs : List Int) : Prop := ∃ cur, w.heap[p]? = some (.cells cur 5 (0, 0)) ∧ bs.length ≤ cur.size ∧ cur.toList.take bs.length = bytesV bs
theorem Row.block {w : World} {p : Nat} {bs : List Int} (h : w.heap[p]? = some (.cells (bytesV bs).toArray 5 (0, 0))) : Row w p bs := ⟨_, h, by simp, List.take_of_length_le (by simp)⟩
theorem Row.lt {w : World} {p : Nat} {bs : List Int} (h : Row w p bs) : p < w.heap.size := by
  obtain ⟨cur, h1, _⟩ := h
  exact (Array.getElem?_eq_some_iff.1 h1).1
theorem Row.cell {w : World} {p : Nat} {bs : List Int} (h : Row w p bs) {k : Nat} (hk : k < bs.length) : w.cell? ⟨p, k, none⟩ = some (.int .u8 (bs.getD k 0)) := by
  obtain ⟨cur, h1, h2, h3⟩ := h
  have h4 : (cur.toList.take bs.length)[k]? = (bytesV bs)[k]? := by rw [h3]
  rw [List.getElem?_take_of_lt hk] at h4
  simp only [Array.getElem?_toList] at h4
  simp only [World.cell?, h1, h4]
  simp [hk]
theorem Row.thaw {w : World} {p : Nat} {bs : List Int} (h : Row w p bs) (k : Nat) : w.frozen? ⟨p, k, none⟩ = false := by
  obtain ⟨cur, h1, _⟩ := h
  simp [World.frozen?, h1]
theorem Row.reads {w : World} {p : Nat} {bs : List Int} (h : Row w p bs) (c : Nat) : Reads w (.slice (some ⟨p, 0, none⟩) bs.length c) bs :=
  ⟨_, _, rfl, fun _ => ⟨p, 0, rfl, fun k hk => by rw [Nat.zero_add]; exact h.cell hk⟩⟩
theorem Row.source {w : World} {p : Nat} {bs : List Int} (h : Row w p bs) : ∀ j u, (bytesV bs)[j]? = some u → w.cell? ((⟨p, 0, none⟩ : Addr).add j) = some u := by
  intro j u hj
  have hlt : j < bs.length := by simpa using (List.getElem?_eq_some_iff.1 hj).1
  rw [addr_add, h.cell hlt, ← hj]
  simp [hlt]
theorem Row.chg {S : Nat → Prop} {w w' : World} {p : Nat} {bs : List Int} (h : Row w p bs) (hc : Chg S w w') (hs : ¬ S p) : Row w' p bs := by
  obtain ⟨cur, h1, h2⟩ := h
  exact ⟨cur, hc.at h1 hs, h2⟩
theorem Row.free {B : Nat} {w : World} {bm : Nat} {v : Value} {L : List (Nat × List Int)} {sent : Int} (H : Net B w bm v L sent) {p : Nat} {bs : List Int} (h : Row w p bs) : ¬ netS bm v p := by
  obtain ⟨cur, h1, _⟩ := h
  rintro (rfl | hv)
  · rw [H.me] at h1
    simp only [Option.some.injEq, Obj.cells.injEq] at h1
    exact absurd h1.2.1 (by decide)
  · exact own_ne H.row h1 (by decide) hv
theorem Row.set {w : World} {p : Nat} {bs : List Int} (h : Row w p bs) {k : Nat} (hk : k < bs.length) (by_ : Int) : Row (w.setCell ⟨p, k, none⟩ (.int .u8 (bits .xor .u8 (bs.getD k 0) by_))) p (flip bs k by_) := by
  obtain ⟨cur, h1, h2, h3⟩ := h
  refine ⟨cur.setIfInBounds k (.int .u8 (bits .xor .u8 (bs.getD k 0) by_)), ?_, by simpa [length_flip] using h2, ?_⟩
  · rw [setCell_eq_setRow w p k cur 5 _ _ h1]
    exact setRow_heap w p _ _ 5 _ h1
  · rw [length_flip, Array.toList_setIfInBounds, List.take_set, h3]
    simp [flip, List.map_set]
theorem Chg.set (w : World) (p k : Nat) (x : Value) : Chg (fun j => j = p) w (w.setCell ⟨p, k, none⟩ x) :=
  ⟨rfl, rfl, rfl, by simp [World.setCell], fun j _ hj => Below.heap_setCell _ _ _ _ hj⟩
/-- The network is untouched by what is none of its own. -/
theorem Net.chg {B : Nat} {w w' : World} {bm : Nat} {v : Value} {L : List (Nat × List Int)} {sent : Int} (H : Net B w bm v L sent) {S : Nat → Prop} (hc : Chg S w w') (h1 : ¬ S bm) (h2 : ∀ k, v.ownBlock = some k → ¬ S k) (h3 : ∀ y ∈ L, ¬ S y.1) : Net B w' bm v L sent := by
  refine ⟨H.base, hc.at H.me h1, ⟨H.row.1, ?_⟩, fun y hy => ⟨(H.pk y hy).low, hc.at (H.pk y hy).at_ (h3 y hy)⟩, by have := H.size; have := hc.size; omega⟩
  rcases H.row.2 with h | ⟨g, cap, cur, hv, hb, hg, hr⟩
  · exact .inl h
  · exact .inr ⟨g, cap, cur, hv, hb, hc.at hg (h2 g (by simp [hv, Value.ownBlock])), hr⟩
theorem Net.setRow {B : Nat} {w : World} {bm : Nat} {v : Value} {L : List (Nat × List Int)} {sent : Int} (H : Net B w bm v L sent) {p : Nat} {bs : List Int} (hp : Row w p bs) (hL : ∀ y ∈ L, y.1 ≠ p) (k : Nat) (x : Value) : Net B (w.setCell ⟨p, k, none⟩ x) bm v L sent :=
  H.chg (Chg.set w p k x) (fun e => hp.free H (.inl e.symm)) (fun j hj e => hp.free H (.inr (by rw [← e]; exact hj))) hL
theorem Net.below {B : Nat} {w w' : World} {bm : Nat} {v : Value} {L : List (Nat × List Int)} {sent : Int} (H : Net B w bm v L sent) (hc : Chg (netS bm v) w w') : Below B w w' :=
  hc.below H.size (fun k hk => by
    rcases hk with rfl | hk
    · exact H.base
    · exact (H.row.lt k hk).1)
theorem Reads.below {w w' : World} {v : Value} {bs : List Int} (h : Reads w v bs) {B : Nat} (hb : Below B w w') (hB : w.heap.size ≤ B) : Reads w' v bs := by
  obtain ⟨a, c, rfl, ha⟩ := h
  refine ⟨a, c, rfl, fun h0 => ?_⟩
  obtain ⟨b, o, rfl, hc⟩ := ha h0
  refine ⟨b, o, rfl, fun k hk => ?_⟩
  have h1 := hc k hk
  have hlt : b < w.heap.size := by
    apply Decidable.byContradiction
    intro hn
    have : w.heap[b]? = none := Array.getElem?_eq_none (by omega)
    simp [World.cell?, this] at h1
  rw [← h1]
  simp only [World.cell?, hb.block b (by omega)]
theorem Reads.source {w : World} {a : Option Addr} {n c : Nat} {bs : List Int} (h : Reads w (.slice a n c) bs) (hn : 0 < n) : bs.length = n ∧ ∃ ad, a = some ad ∧ ∀ j u, (bytesV bs)[j]? = some u → w.cell? (ad.add j) = some u := by
  obtain ⟨a', c', he, ha⟩ := h
  simp only [Value.slice.injEq] at he
  obtain ⟨rfl, rfl, rfl⟩ := he
  obtain ⟨b, o, rfl, hc⟩ := ha hn
  refine ⟨rfl, _, rfl, fun j u hj => ?_⟩
  have hlt : j < bs.length := by simpa using (List.getElem?_eq_some_iff.1 hj).1
  have e : (⟨b, o, none⟩ : Addr).add j = ⟨b, o + j, none⟩ := by unfold Addr.add; split <;> simp_all
  rw [e, hc j hlt, ← hj]
  simp [hlt]
section
variable {B : Nat} {w : World} {bm : Nat} {v : Value} {L : List (Nat × List Int)} {sent : Int}
/-- A look, with the world behind it told by what it holds. -/
theorem look_st (H : Net B w bm v L sent) (i : Nat) (x : Nat × List Int) (hx : L[i]? = some x) (hl : x.2.length ≤ 1048592) : Calls Try.prog 11 #[.pointer (some ⟨bm, 0, none⟩), .int .i64 i] w fun e w' =>
    ∃ p, e = .returned (.tuple #[hdr p x.2.length, .int .i64 0]) ∧ w.heap.size ≤ p ∧ Row w' p x.2 ∧ Net B w' bm v L sent ∧ Chg (fun _ => False) w w' :=
  (look_ok H i x hx (by omega)).mono fun e w' ⟨h1, h2⟩ => by
    subst h2
    exact ⟨_, h1, Nat.le_refl _, Row.block (heap_alloc_new _ _), H.alloc' _, Chg.alloc _ _ _⟩
theorem take_st (H : Net B w bm v L sent) (i : Nat) (x : Nat × List Int) (hx : L[i]? = some x) (hl : x.2.length ≤ 1048592) (hmx : L.length ≤ 9223372036854775806) : Calls Try.prog 13 #[.pointer (some ⟨bm, 0, none⟩), .int .i64 i] w fun e w' =>
    ∃ p v', e = .returned (.tuple #[hdr p x.2.length, .int .i64 0]) ∧ Row w' p x.2 ∧ Net B w' bm v' (L.eraseIdx i) sent ∧ Chg (netS bm v) w w' :=
  (take_ok H i x hx (by omega) hmx).mono fun e w' ⟨h1, v', h2, h3, h4⟩ => ⟨_, v', h1, Row.block h4, h2, h3⟩
end
theorem same_eq (w : World) (v u : Value) (xs : List Int) (hv : Reads w v xs) (hu : Reads w u xs) (hbig : xs.length ≤ 9223372036854775807) : Calls Try.prog 14 #[v, u] w fun e w' => e = .returned (.bool true) ∧ Chg (fun _ => False) w w' :=
  (same_ok w v u xs xs hv hu hbig).mono fun e w' ⟨h1, m, h2⟩ => by
    subst h2
    exact ⟨by rw [h1]; simp, ⟨rfl, rfl, rfl, Nat.le_refl _, fun _ _ _ => rfl⟩⟩
theorem own_start {w w3 : World} {v8 : Value} {bs : List Int} (h0 : 0 < bs.length)
    (hown : w3.ownsRow w.heap.size 5 1 v8 (0 + bs.length) ([] ++ bytesV bs)) (hg : ((w.alloc (.cells #[.slice none 0 0, .int .i64 0] 50)).alloc (.cells #[] 5)).grownBy w3 (some (w.heap.size + 1))) :
    ∃ g cap, v8 = .slice (some ⟨g, 0, none⟩) bs.length cap ∧ Net w.heap.size w3 w.heap.size (.slice none 0 0) [] 0 ∧ Row w3 g bs ∧ Below w.heap.size w w3 ∧ w.heap.size ≤ g := by
  rcases hown.2 with ⟨_, hz⟩ | ⟨g, cap, cur, rfl, h1, h2, h3, h4, h5, h6⟩
  · omega
  · refine ⟨g, cap, by simp, ?_, ⟨cur, h2, by omega, by simpa using h6⟩, ⟨hg.os, hg.tape, hg.output, ?_, ?_⟩, h1⟩
    · refine ⟨Nat.le_refl _, ?_, World.ownsRow_nil _ _ _ _, fun y hy => (by cases hy), ?_⟩
      · rw [hg.block _ (by simp; omega) (by simp), heap_alloc_old _ _ (by simp)]
        exact heap_alloc_new w _
      · have := hg.size
        simp at this
        omega
    · have := hg.size
      simp at this
      omega
    · intro k hk
      rw [hg.block _ (by simp; omega) (by simp; omega), heap_alloc_old _ _ (by simp; omega), heap_alloc_old _ _ hk]
end Go.Proofs.Ytjffmdfkodkidaa
