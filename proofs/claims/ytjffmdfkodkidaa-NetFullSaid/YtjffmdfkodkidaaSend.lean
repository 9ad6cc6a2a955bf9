/- The seat's tables and runs, for the evaluator; no condition. -/
import Derived.Test.YtjffmdfkodkidaaOwnW
import Derived.Deep.RegionLaw
import Derived.RegionTactic
import Derived.ChangeAlike
import Derived.OwnWalk
set_option linter.unusedSimpArgs false
set_option linter.unusedVariables false
set_option linter.unusedSectionVars false
set_option linter.deprecated false
namespace Go.Proofs.Ytjffmdfkodkidaa
open Go.RowKit
set_option linter.unusedVariables false

theorem step_append_own {P : Program} {ops : Array Oper} {o : Oper} {a : Act} {w : World} {K : Act → World → Prop} {Q : Exit → Act → World → Prop} {E : Prop}
    (hg : o.guard = none) (s x : Operand) (t : TypeId) (hop : o.op = Op.call { callee := Callee.builtin Builtin.append, args := #[s, x], argTypes := #[t, t] })
    (base : Nat) (e : TypeId) (i : TypeInfo) (z : Value) (size bytes : Nat) (h1 : P.underlying t = some (.slice e)) (h2 : P.info? e = some i) (h3 : i.zero = some z) (h4 : i.size = size) (h5 : i.bytes = bytes) (h6 : z.cells.size = size) (h7 : 0 < size)
    (v : Value) (n : Nat) (xs : List Value) (hs : a.eval s = v) (hown : w.ownsRow base e size v n xs)
    (ad : Addr) (m c : Nat) (news : List Value) (hx : a.eval x = .slice (some ad) m c) (hn : news.length = m * size) (hc : ∀ j u, news[j]? = some u → w.cell? (ad.add j) = some u) (h1c : ∀ u ∈ news, u.oneCell' = true)
    (b1 : n + m ≤ maxLen) (b2 : (n + m) * bytes ≤ 140737488355328) (hbase : base ≤ w.heap.size)
    (hK : ∀ v' w', w'.ownsRow base e size v' (n + m) (xs ++ news) → w.grownBy w' v.ownBlock → K (a.put o.dst v') w') :
    if Region.wanted o (yielded ops a.tmps) = true then Oper.wp P o a w K Q else E := by
  have hw : Region.wanted o (yielded ops a.tmps) = true := by simp [Region.wanted, hg]
  rw [if_pos hw]
  obtain ⟨v', w', hrun, r1, r2, _⟩ := run_append_own (P := P) w base t o.type e i z size bytes h1 h2 h3 h4 h5 h6 h7 v n xs hown ad m c news hn hc h1c b1 b2 hbase
  unfold Oper.wp
  simp [execOp, hop, resolve, invoke, builtin, hs, hx, hrun, Result.andThen]
  exact hK v' w' r1 r2

abbrev hdr (p n : Nat) : Value := .slice (some ⟨p, 0, none⟩) n n
abbrev bytesV (bs : List Int) : List Value := bs.map (fun n => Value.int .u8 n)
/-- A packet under way. -/
structure Pack (B : Nat) (w : World) (x : Nat × List Int) : Prop where
  low : B ≤ x.1
  at_ : w.heap[x.1]? = some (.cells (bytesV x.2).toArray 5 (0, 0))
structure Net (B : Nat) (w : World) (bm : Nat) (v : Value) (L : List (Nat × List Int)) (sent : Int) : Prop where
  base : B ≤ bm
  me : w.heap[bm]? = some (.cells #[v, .int .i64 sent] 50 (0, 0))
  row : w.ownsRow B 22 1 v L.length (L.map fun x => hdr x.1 x.2.length)
  pk : ∀ x ∈ L, Pack B w x
  size : B ≤ w.heap.size
/-- What a call may have changed. -/
structure Chg (S : Nat → Prop) (w w' : World) : Prop where
  os : w'.os = w.os
  tape : w'.tape = w.tape
  output : w'.output = w.output
  size : w.heap.size ≤ w'.heap.size
  block : ∀ k, k < w.heap.size → ¬ S k → w'.heap[k]? = w.heap[k]?
def netS (bm : Nat) (v : Value) : Nat → Prop := fun k => k = bm ∨ v.ownBlock = some k

theorem own_ne {w : World} {B : Nat} {e : TypeId} {s : Nat} {v : Value} {n : Nat} {xs : List Value} (h : w.ownsRow B e s v n xs) {b : Nat} {cs : Array Value} {t : TypeId} {f : Nat × Nat} (hb : w.heap[b]? = some (.cells cs t f)) (ht : t ≠ e) : v.ownBlock ≠ some b := by
  intro hv
  rcases h.2 with ⟨rfl, h0⟩ | ⟨g, cap, cur, rfl, _, hg, _⟩
  · cases hv
  · simp only [Value.ownBlock, Option.some.injEq] at hv
    subst hv
    rw [hg] at hb
    simp only [Option.some.injEq, Obj.cells.injEq] at hb
    exact ht hb.2.1.symm
theorem Net.nm {B : Nat} {w : World} {bm : Nat} {v : Value} {L : List (Nat × List Int)} {sent : Int} (H : Net B w bm v L sent) : v.ownBlock ≠ some bm := own_ne H.row H.me (by decide)
theorem Net.nl {B : Nat} {w : World} {bm : Nat} {v : Value} {L : List (Nat × List Int)} {sent : Int} (H : Net B w bm v L sent) {x : Nat × List Int} (hx : x ∈ L) : v.ownBlock ≠ some x.1 := own_ne H.row (H.pk x hx).at_ (by decide)
theorem Net.ne {B : Nat} {w : World} {bm : Nat} {v : Value} {L : List (Nat × List Int)} {sent : Int} (H : Net B w bm v L sent) {x : Nat × List Int} (hx : x ∈ L) : x.1 ≠ bm := by
  intro e
  have h := (H.pk x hx).at_
  rw [e, H.me] at h
  simp only [Option.some.injEq, Obj.cells.injEq] at h
  exact absurd h.2.1 (by decide)
theorem heap_set2 (w : World) (bm : Nat) (v x v0 s : Value) (h : w.heap[bm]? = some (.cells #[v0, s] 50 (0, 0))) : ((w.setCell ⟨bm, 0, none⟩ v).setCell ⟨bm, 1, none⟩ x).heap[bm]? = some (.cells #[v, x] 50 (0, 0)) := by
  simp [World.setCell, Array.getElem?_modify, h]
theorem heap_set_ne (w : World) (bm : Nat) (v x : Value) (k : Nat) (h : k ≠ bm) : ((w.setCell ⟨bm, 0, none⟩ v).setCell ⟨bm, 1, none⟩ x).heap[k]? = w.heap[k]? := by
  rw [Below.heap_setCell _ _ _ _ h, Below.heap_setCell _ _ _ _ h]

theorem own_form {w : World} {B : Nat} {e : TypeId} {s : Nat} {v : Value} {n : Nat} {xs : List Value} (h : w.ownsRow B e s v n xs) : ∃ ao cap, v = .slice ao n cap := by
  rcases h.2 with ⟨rfl, h0⟩ | ⟨g, cap, cur, rfl, _⟩
  · exact ⟨none, 0, by rw [h0]⟩
  · exact ⟨_, _, rfl⟩
theorem rowUp {w : World} {B : Nat} {e : TypeId} {s : Nat} {v : Value} {n : Nat} {xs : List Value} (h : w.ownsRow B e s v n xs) (o p : Obj) : ((w.alloc o).alloc p).drew.ownsRow B e s v n xs :=
  World.ownsRow.alloc (World.ownsRow.alloc h o) p
theorem one_bytes (bs : List Int) : ∀ v ∈ bytesV bs, v.oneCell' = true := by
  intro v hv
  obtain ⟨x, _, rfl⟩ := List.mem_map.1 hv
  rfl
theorem oneCell_at (w : World) (o : Obj) (x : Value) (t : TypeId) {n : Nat} (hn : n = (w.alloc o).heap.size) : ∀ j u, [x][j]? = some u → ((w.alloc o).alloc (.cells #[x] t)).drew.cell? ((⟨n, 0, none⟩ : Addr).add j) = some u := by
  intro j u h
  subst hn
  cases j with
  | zero =>
    simp only [List.getElem?_cons_zero, Option.some.injEq] at h
    subst h
    exact World.cell?_alloc_at #[x] t (w.alloc o).heap.size 0 rfl
  | succ j => simp at h
theorem meUp {w w' : World} {bm : Nat} {v s : Value} {o p : Obj} (h : w.heap[bm]? = some (.cells #[v, s] 50 (0, 0))) (hv : v.ownBlock ≠ some bm) (hg : ((w.alloc o).alloc p).drew.grownBy w' v.ownBlock) :
    w'.heap[bm]? = some (.cells #[v, s] 50 (0, 0)) := by
  have hlt : bm < w.heap.size := (Array.getElem?_eq_some_iff.1 h).1
  have h1 : ((w.alloc o).alloc p).drew.heap[bm]? = w.heap[bm]? := by
    show ((w.alloc o).alloc p).heap[bm]? = w.heap[bm]?
    rw [heap_alloc_old (w.alloc o) p (r := bm) (by simp; omega), heap_alloc_old w o (r := bm) (by simpa using hlt)]
  rw [hg.block bm (by simp; omega) (Ne.symm hv), h1, h]

theorem send_state {B : Nat} {w w' : World} {bm : Nat} {v v' : Value} {L : List (Nat × List Int)} {sent s' : Int} (H : Net B w bm v L sent) {bs : List Int} {o : Obj}
    (hown : w'.ownsRow B 22 1 v' (L.length + 1) ((L.map fun x => hdr x.1 x.2.length) ++ [hdr w.heap.size bs.length]))
    (hg : ((w.alloc (.cells (bytesV bs).toArray 5)).alloc o).drew.grownBy w' v.ownBlock) (hm : w'.heap[bm]? = some (.cells #[v, .int .i64 sent] 50 (0, 0))) :
    Net B ((w'.setCell ⟨bm, 0, none⟩ v').setCell ⟨bm, 1, none⟩ (.int .i64 s')) bm v' (L ++ [(w.heap.size, bs)]) s' ∧ Chg (netS bm v) w ((w'.setCell ⟨bm, 0, none⟩ v').setCell ⟨bm, 1, none⟩ (.int .i64 s')) := by
  have hbm : bm < w.heap.size := (Array.getElem?_eq_some_iff.1 H.me).1
  have hold : ∀ k, k < w.heap.size → v.ownBlock ≠ some k → w'.heap[k]? = w.heap[k]? := by
    intro k hk hv
    have h1 : ((w.alloc (.cells (bytesV bs).toArray 5)).alloc o).drew.heap[k]? = w.heap[k]? := by
      show ((w.alloc (.cells (bytesV bs).toArray 5)).alloc o).heap[k]? = w.heap[k]?
      rw [heap_alloc_old (w.alloc (.cells (bytesV bs).toArray 5)) o (r := k) (by simp; omega), heap_alloc_old w _ (r := k) hk]
    rw [hg.block k (by simp; omega) (Ne.symm hv), h1]
  have hnew : w'.heap[w.heap.size]? = some (.cells (bytesV bs).toArray 5 (0, 0)) := by
    rw [hg.block w.heap.size (by simp; omega) (fun e => by have := (H.row.lt _ e.symm).2; omega)]
    show ((w.alloc (.cells (bytesV bs).toArray 5)).alloc o).heap[w.heap.size]? = _
    rw [heap_alloc_old (w.alloc (.cells (bytesV bs).toArray 5)) o (r := w.heap.size) (by simp)]
    exact heap_alloc_new w _
  have hsz : w.heap.size + 2 ≤ w'.heap.size := by
    have := hg.size
    simpa using this
  refine ⟨⟨H.base, heap_set2 _ _ _ _ _ _ hm, ?_, ?_, by simp [World.setCell]; have := H.size; omega⟩, ⟨?_, ?_, ?_, ?_, ?_⟩⟩
  · have hnm : v'.ownBlock ≠ some bm := own_ne hown hm (by decide)
    refine ⟨by simp, ?_⟩
    rcases hown.2 with ⟨rfl, h0⟩ | ⟨g, cap, cur, rfl, h1, h2, h3⟩
    · simp at h0
    · refine .inr ⟨g, cap, cur, by simp, h1, ?_, ?_⟩
      · rw [heap_set_ne _ _ _ _ _ (fun e => hnm (by simp [Value.ownBlock, e])), h2]
      · simpa using h3
  · intro x hx
    rcases List.mem_append.1 hx with hx | hx
    · refine ⟨(H.pk x hx).low, ?_⟩
      rw [heap_set_ne _ _ _ _ _ (H.ne hx), hold _ (Array.getElem?_eq_some_iff.1 (H.pk x hx).at_).1 (H.nl hx)]
      exact (H.pk x hx).at_
    · simp only [List.mem_cons, List.not_mem_nil, or_false] at hx
      subst hx
      refine ⟨H.size, ?_⟩
      rw [heap_set_ne _ _ _ _ _ (by simp only; omega)]
      exact hnew
  · exact hg.os
  · exact hg.tape
  · exact hg.output
  · simp [World.setCell]; omega
  · intro k hk hs
    rw [heap_set_ne _ _ _ _ _ (fun e => hs (.inl e))]
    exact hold k hk (fun e => hs (.inr e))

theorem send_new (B : Nat) (w : World) (bm : Nat) (v : Value) (L : List (Nat × List Int)) (sent : Int) (H : Net B w bm v L sent) (hL : L.length < 512)
    (a : Option Addr) (n c : Nat) (bs : List Int) (hn : bs.length = n) (hb : n ≤ 1048592)
    (ha : 0 < n → ∃ ad, a = some ad ∧ ∀ j v, (bytesV bs)[j]? = some v → w.cell? (ad.add j) = some v) :
    Calls Try.prog 9 #[.pointer (some ⟨bm, 0, none⟩), .slice a n c] w fun e w' => e = .returned (.int .i64 0) ∧ ∃ v' p, w.heap.size ≤ p ∧ Net B w' bm v' (L ++ [(p, bs)]) (wrap64 (sent + 1)) ∧ Chg (netS bm v) w w' := by
  obtain ⟨ao, cap, rfl⟩ : ∃ ao cap, v = .slice ao L.length cap := by
    rcases H.row.2 with ⟨rfl, h0⟩ | ⟨g, cap, cur, rfl, _⟩
    · exact ⟨none, 0, by rw [h0]⟩
    · exact ⟨_, _, rfl⟩
  have hc0 : w.cell? ⟨bm, 0, none⟩ = some (.slice ao L.length cap) := by simp [World.cell?, H.me]
  have hc1 : w.cell? ⟨bm, 1, none⟩ = some (.int .i64 sent) := by simp [World.cell?, H.me]
  have hf0 : w.frozen? ⟨bm, 0, none⟩ = false := by simp [World.frozen?, H.me]
  have hf1 : w.frozen? ⟨bm, 1, none⟩ = false := by simp [World.frozen?, H.me]
  have hn1 : ¬ ((1048592 : Int) < (n : Int)) := by omega
  have hn2 : ¬ ((512 : Int) ≤ (L.length : Int)) := by omega
  have hbm : bm < w.heap.size := (Array.getElem?_eq_some_iff.1 H.me).1
  have hB := H.size
  have hsz22 : Try.t22.size = 1 := by kernel_rfl
  have hby22 : Try.t22.bytes = 24 := by kernel_rfl
  have hz22 : Try.t22.zero = some (.slice none 0 0) := by kernel_rfl
  have hi22 : Try.prog.info? 22 = some Try.t22 := by kernel_rfl
  have hrd : ∀ w1 : World, w1.heap = w.heap → 0 < n → ∃ ad, a = some ad ∧ ∀ j v, (bytesV bs)[j]? = some v → w1.cell? (ad.add j) = some v := fun w1 e h => by
    obtain ⟨ad, h1, h2⟩ := ha h
    exact ⟨ad, h1, fun j v hj => by rw [show w1.cell? (ad.add j) = w.cell? (ad.add j) from by simp [World.cell?, e]]; exact h2 j v hj⟩
  clear ha
  go_enter Try.func9, Try.ntmps9
  go_wp2
  go_region_law (first
    | (go_simp; go_at_call 23; refine (own_walk a n c (bytesV bs) w.drew (by simp [hn]) (by omega) (one_bytes bs) (hrd w.drew rfl)).mono ?_; rintro e w' ⟨rfl, rfl⟩)
    | (refine step_append_own rfl (.tmp 23) (.tmp 26) 39 rfl B 22 Try.t22 (.slice none 0 0) 1 24 Try.underlying39 hi22 hz22 hsz22 hby22 rfl (by decide) (.slice ao L.length cap) L.length (L.map fun x => hdr x.1 x.2.length) (by simp [Act.eval]) (rowUp H.row _ _) ⟨w.heap.size + 1, 0, none⟩ 1 1 [hdr w.heap.size n] (by simp [Act.eval]) rfl (oneCell_at _ _ _ _ (by simp)) (by simp [Value.oneCell']) (by simp only [maxLen]; omega) (by omega) (by simp; omega) ?_
       intro v' w' hown hgrow
       obtain ⟨ao', cap', rfl⟩ := own_form hown
       have hm' : w'.heap[bm]? = some (.cells #[.slice ao L.length cap, .int .i64 sent] 50 (0, 0)) := meUp H.me H.nm hgrow
       have hs0 : w'.cell? ⟨bm, 0, none⟩ = some (.slice ao L.length cap) := by simp [World.cell?, hm']
       have hs1 : w'.frozen? ⟨bm, 0, none⟩ = false := by simp [World.frozen?, hm']
       have hs2 : w'.cell? ⟨bm, 1, none⟩ = some (.int .i64 sent) := by simp [World.cell?, hm']
       have hs3 : w'.frozen? ⟨bm, 1, none⟩ = false := by simp [World.frozen?, hm']))
  all_goals go_wp2
  all_goals (go_ret; subst hn; exact ⟨rfl, _, _, Nat.le_refl _, send_state H hown hgrow hm'⟩)
theorem send_ok (B : Nat) (w : World) (bm : Nat) (v : Value) (L : List (Nat × List Int)) (sent : Int) (H : Net B w bm v L sent) (hL : L.length < 512)
    (a : Option Addr) (n c : Nat) (bs : List Int) (hn : bs.length = n) (hb : n ≤ 1048592)
    (ha : 0 < n → ∃ ad, a = some ad ∧ ∀ j v, (bytesV bs)[j]? = some v → w.cell? (ad.add j) = some v) :
    Calls Try.prog 9 #[.pointer (some ⟨bm, 0, none⟩), .slice a n c] w fun e w' => e = .returned (.int .i64 0) ∧ ∃ v' p, Net B w' bm v' (L ++ [(p, bs)]) (wrap64 (sent + 1)) ∧ Chg (netS bm v) w w' :=
  (send_new B w bm v L sent H hL a n c bs hn hb ha).mono fun _ _ ⟨h1, v', p, _, h2⟩ => ⟨h1, v', p, h2⟩
end Go.Proofs.Ytjffmdfkodkidaa
