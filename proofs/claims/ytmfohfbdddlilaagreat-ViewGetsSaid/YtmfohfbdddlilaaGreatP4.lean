/- An evaluator over symbolic values, proved sound over the model's machine, and its use at this seat; no condition. Part 4. -/
import Derived.KernelRfl
import Derived.WalkKit
import Derived.Deep.RegionWith
import Derived.IntWalk
import Derived.Maps.RangeWalk
import Derived.Shelf.SlIter.Collect
import Derived.OwnWalk
import Derived.Deep.LoopGhost
import Derived.Lib.Walk
import Derived.Lib.SliceRun
import Derived.Shelf.SlSortCmp.WholeK
import Derived.Test.YtmfohfbdddlilaaGreatProg
import Derived.Deep.MidRow
import Derived.Deep.RegionHeld3
import Derived.Deep.Cut
import Derived.Test.YtmfohfbdddlilaaGreatP3
set_option linter.unusedSimpArgs false
set_option linter.unusedVariables false
set_option linter.unusedSectionVars false
set_option linter.deprecated false
set_option maxRecDepth 100000
set_option maxHeartbeats 40000000
namespace Go.Proofs
open Go Go.Am Go.RowKit Go.Sy
variable [Inhabited DrP]
theorem qj8 {m : CMap} {l : List CEvent} {x : Nat} (h : x < l.length) : winF m (l.take (x + 1)) = if (qag m l[x].key).1.dot = l[x].dot then insW (winF m (l.take x)) (qag m l[x].key).1 else winF m (l.take x) := qb7 _ _ h
theorem qtu (m : CMap) (l : List CEvent) (x : Nat) : (winF m (l.take x)).length <= l.length := by
 have := qgk m (l.take x) []; unfold winF; simp only [List.length_nil, Nat.zero_add, List.length_take] at this; omega
theorem qrX {p q : Prop} (h : p = q) (hp : p) : q := h ▸ hp
theorem qm8 : CO zz24 qi2 := qae (cfg := fun y => cfgE qp0 (qh6 zz24 9 (qmn y) (qaL zz24 4 (qeB y)))) zz1 (fun _ => rfl) (fun _ => qil) (n := 800) (by
 intro (m : CMap) (hm : okM m); have hal := qeD hm
 (conv => whnf)
 refine ⟨m, ?_⟩
 repeat ((conv => whnf); first | refine ⟨rfl, ?_⟩ | refine ⟨trivial, ?_⟩)
 refine ⟨hm, ?_⟩
 (conv => whnf)
 refine ⟨⟨(0 : Nat), Nat.zero_le _, ?_⟩, ?_⟩
 · repeat' (first | exact trivial | exact rfl | ((conv => whnf); first | refine brI (fun _ => ?_) fun _ => ?_ | refine And.intro ?_ ?_))
 intro (x : Nat) hx; have hx : x <= (qaj m).length := hx
 (conv => whnf)
 refine brI (fun hlt => ?_) fun hge => ?_
 · have hlt' : x < (qaj m).length := qad hlt; have hf := qj8 (m := m) hlt'; have hle := qtu m (qaj m) x; have mu : (qaj m).length - (x + 1) < (qaj m).length - x := by omega
   (conv => whnf)
   refine so_iff.2 ⟨_, qax hlt', ?_⟩
   (conv => whnf)
   refine ⟨(m, (qaj m)[x].key), ?_⟩
   repeat ((conv => whnf); first | refine ⟨rfl, ?_⟩ | refine ⟨trivial, ?_⟩)
   refine ⟨hm, ?_⟩
   (conv => whnf)
   refine so_iff.2 ⟨_, qax hlt', ?_⟩
   (conv => whnf)
   refine brI (fun h => ?_) fun h => ?_
   · have h : decide ((qag m (qaj m)[x].key).1.dot = (qaj m)[x].dot) = false := by
       have h : (!decide ((qag m (qaj m)[x].key).1.dot = (qaj m)[x].dot)) = true := by rw [<- qdF]; exact h
       simpa using h
     rw [if_neg (by simpa using h)] at hf
     (conv => whnf)
     refine ck_iff.2 ⟨qam x (by omega), ?_⟩
     (conv => whnf)
     refine ⟨(x + 1 : Nat), hlt', mu, ?_⟩
     repeat' (first | exact trivial | (with_reducible exact rfl) | ((conv => whnf); first | refine brI (fun _ => ?_) fun _ => ?_ | refine And.intro ?_ ?_))
     all_goals first | exact rfl | (rw [hf]; done) | (rw [hf]; exact rfl)
   · have h : decide ((qag m (qaj m)[x].key).1.dot = (qaj m)[x].dot) = true := by
       have h : (!decide ((qag m (qaj m)[x].key).1.dot = (qaj m)[x].dot)) = false := by rw [<- qdF]; exact h
       simpa using h
     rw [if_pos (by simpa using h)] at hf
     (conv => whnf)
     refine ⟨((x, 0) : Nat × Nat), ⟨((x, 0) : Nat × Nat), ⟨⟨hlt', Nat.zero_le _⟩, rfl⟩, ?_⟩, ?_⟩
     · repeat' (first | exact trivial | (with_reducible exact rfl) | ((conv => whnf); first | refine brI (fun _ => ?_) fun _ => ?_ | refine And.intro ?_ ?_))
       all_goals exact rfl
     rintro ⟨x1, k⟩ ⟨⟨g1, g2⟩, hx1⟩; have hx1 : x1 = x := hx1; subst hx1; have hk : k <= posL qeY (winF m ((qaj m).take x1)) (qag m (qaj m)[x1].key).1 := g2; have hkp := qfz (less := qeY) (winF m ((qaj m).take x1)) (qag m (qaj m)[x1].key).1; have hkl : k <= (winF m ((qaj m).take x1)).length := by omega
     (conv => whnf)
     refine br_iff.2 ⟨fun hlt2 => ?ga, fun hge2 => ?gb⟩
     case' ga =>
       have hlt2' : k < (winF m ((qaj m).take x1)).length := qad hlt2
       (conv => whnf)
       refine so_iff.2 ⟨_, qax hlt2', ?_⟩
       (conv => whnf)
       refine ⟨((winF m ((qaj m).take x1))[k].key, (qag m (qaj m)[x1].key).1.key), ?_⟩
       repeat ((conv => whnf); first | refine ⟨rfl, ?_⟩ | refine ⟨trivial, ?_⟩)
       (conv => whnf)
       refine br_iff.2 ⟨fun hl => ?gc, fun hl => ?gd⟩
       case gc =>
        have hl : qeY (winF m ((qaj m).take x1))[k] (qag m (qaj m)[x1].key).1 = true := hl
        (conv => whnf)
        refine ck_iff.2 ⟨qam k (by omega), ?_⟩
        (conv => whnf)
        refine ⟨((x1, k + 1) : Nat × Nat), ⟨⟨hlt', qg4 hk hlt2' hl⟩, rfl⟩, by show (winF m ((qaj m).take x1)).length - (k + 1) < (winF m ((qaj m).take x1)).length - k; omega, ?_⟩
        repeat' (first | exact trivial | (with_reducible exact rfl) | ((conv => whnf); first | refine brI (fun _ => ?_) fun _ => ?_ | refine And.intro ?_ ?_))
        all_goals exact rfl
       case' gd =>
        have hl : qeY (winF m ((qaj m).take x1))[k] (qag m (qaj m)[x1].key).1 = false := hl; have hkk : k = posL qeY (winF m ((qaj m).take x1)) (qag m (qaj m)[x1].key).1 := qg5 hk hlt2' hl
     case' gb =>
       have hge2' : (winF m ((qaj m).take x1)).length <= k := qbw hge2; have hkk : k = posL qeY (winF m ((qaj m).take x1)) (qag m (qaj m)[x1].key).1 := by omega
     all_goals
       have hz : (winF m ((qaj m).take x1)).length + 1 <= 60000 := by omega
       (conv => whnf)
       refine ⟨fun _ => rfl, ?_⟩
       (conv => whnf)
       refine ck_iff.2 ⟨by show Nat.ble k (winF m ((qaj m).take x1)).length = true; rw [Nat.ble_eq]; exact hkl, ?_⟩
       (conv => whnf)
       refine ⟨fun _ => rfl, ?_⟩
       (conv => whnf)
       refine ck_iff.2 ⟨by show Nat.ble k (winF m ((qaj m).take x1)).length = true; rw [Nat.ble_eq]; exact hkl, ?_⟩
       (conv => whnf)
       refine ⟨fun _ => ⟨rfl, rfl⟩, ?_⟩
       (conv => whnf)
       refine ⟨(winF m ((qaj m).take x1)).take k, rfl, ?_⟩
       (conv => whnf)
       refine ck_iff.2 ⟨apE _ (by simp; omega), ?_⟩; have hS : ∃ e : CEvent, e.enc = (qag m (qaj m)[x1].key).1.enc /\ ck (Nat.ble ((([] ++ (winF m ((qaj m).take x1)).take k).length + [e].length) * 176) 16777216 && Nat.ble (([] ++ (winF m ((qaj m).take x1)).take k).length + [e].length) 16777216) ((∀ x : CEvent, x.enc.length = 19 /\ x.enc.all qdI = true) /\ ∃ M : List CEvent, SV.lst CEvent ((winF m ((qaj m).take x1)).drop k) CEvent.enc = SV.lst CEvent M CEvent.enc /\ ck (Nat.ble ((([] ++ (winF m ((qaj m).take x1)).take k ++ [e]).length + M.length) * 176) 16777216 && Nat.ble (([] ++ (winF m ((qaj m).take x1)).take k ++ [e]).length + M.length) 16777216) (ck (inR .i64 ((x1 : Int) + 1)) (∃ y : Nat, (qeB m).ok y /\ (qeB m).μ y < (qeB m).μ x1 /\ (True /\ SV.lst CEvent ([] ++ (winF m ((qaj m).take x1)).take k ++ [e] ++ M) CEvent.enc = SV.lst CEvent (winF m ((qaj m).take y)) CEvent.enc /\ SV.lst CEvent (qaj m) CEvent.enc = SV.lst CEvent (qaj m) CEvent.enc /\ (x1 : Int) + 1 = (y : Int) /\ True) /\ (True /\ (SV.lst CDot m.ctx CDot.enc = SV.lst CDot m.ctx CDot.enc /\ SV.lst CEvent m.kept CEvent.enc = SV.lst CEvent m.kept CEvent.enc /\ SV.lst CDot m.dead CDot.enc = SV.lst CDot m.dead CDot.enc /\ True) /\ True) /\ True))) := by
        refine ⟨(qag m (qaj m)[x1].key).1, rfl, ck_iff.2 ⟨apE _ (by simp; omega), fun _ => ⟨rfl, rfl⟩, (winF m ((qaj m).take x1)).drop k, rfl, ck_iff.2 ⟨apE _ (by simp; omega), ck_iff.2 ⟨qam x1 (by omega), (x1 + 1 : Nat), hlt', mu, ⟨trivial, ?_, rfl, rfl, trivial⟩, ⟨trivial, ⟨rfl, rfl, rfl, trivial⟩, trivial⟩, trivial⟩⟩⟩⟩; rw [hf]; unfold insW; rw [<- hkk]; simp
       clear hf hle mu g2 hk hkp; exact qrX (by kernel_rfl) hS
 · have hge' : (qaj m).length <= x := qbw hge
   (conv => whnf)
   refine ⟨by rw [List.take_of_length_le hge']; rfl, ?_⟩
   repeat' (first | exact trivial | exact rfl | ((conv => whnf); first | refine brI (fun _ => ?_) fun _ => ?_ | refine And.intro ?_ ?_)))
end Go.Proofs
set_option maxHeartbeats 1000000
namespace Go.Proofs
open Go Go.Am Go.RowKit Go.Sy Go.Gm
variable [Inhabited DrP]
section
variable {α : Type} {less : α -> α -> Bool}
theorem qeu (hir : ∀ x, less x x = false) (htr : ∀ x y z, less x y = true -> less y z = true -> less x z = true) : ∀ {l m : List α}, l.Pairwise (fun x y => less x y = true) -> m.Pairwise (fun x y => less x y = true) -> (∀ x, x ∈ l ↔ x ∈ m) -> l = m
 | [], [], _, _, _ => rfl
 | [], y :: m, _, _, h => by have := (h y).2 List.mem_cons_self; cases this
 | x :: l, [], _, _, h => by have := (h x).1 List.mem_cons_self; cases this
 | x :: l, y :: m, hl, hm, h => by
  rw [List.pairwise_cons] at hl hm; have hxy : x = y := by
    have h1 := (h x).1 List.mem_cons_self; have h2 := (h y).2 List.mem_cons_self; rcases List.mem_cons.1 h1 with h1 | h1
    · exact h1
    · rcases List.mem_cons.1 h2 with h2 | h2
      · exact h2.symm
      · have := htr _ _ _ (hl.1 y h2) (hm.1 x h1); rw [hir] at this; cases this
  subst hxy; congr 1
  refine qeu hir htr hl.2 hm.2 fun z => ?_
  have hz := h z; constructor
  · intro hz1; rcases List.mem_cons.1 (hz.1 (List.mem_cons_of_mem _ hz1)) with rfl | h2
    · have := hl.1 z hz1; rw [hir] at this; cases this
    · exact h2
  · intro hz1; rcases List.mem_cons.1 (hz.2 (List.mem_cons_of_mem _ hz1)) with rfl | h2
    · have := hm.1 z hz1; rw [hir] at this; cases this
    · exact h2
theorem qkI [DecidableEq α] (hir : ∀ x, less x x = false) (htr : ∀ x y z, less x y = true -> less y z = true -> less x z = true) (tri : ∀ x y, less x y = true \/ x = y \/ less y x = true) {l : List α} (hl : l.Pairwise fun x y => less x y = true) (e : α) : (insL less l e).Pairwise fun x y => less x y = true := by
 have key : ∀ {l : List α}, l.Pairwise (fun x y => less x y = true) -> e ∈ l -> l[posL less l e]? = some e := by
   intro l; induction l with
   | nil => intro _ h; cases h
   | cons x l ih =>
     intro hl hm; rw [List.pairwise_cons] at hl; unfold posL; rw [List.takeWhile_cons]; by_cases h : less x e = true
     · rw [if_pos h]; rcases List.mem_cons.1 hm with rfl | hm
       · rw [hir] at h; cases h
       · simp only [List.length_cons, List.getElem?_cons_succ]; exact ih hl.2 hm
     · rw [if_neg h]; rcases List.mem_cons.1 hm with rfl | hm
       · rfl
       · exact absurd (hl.1 e hm) h
 unfold insL; split
 · exact hl
 · rename_i hne; refine qfu htr hl fun x hx => ?_
   rcases tri x e with h | h | h
   · exact .inl h
   · subst h; exact absurd (key hl hx) hne
   · exact .inr h
theorem qj3 [DecidableEq α] (hir : ∀ x, less x x = false) (htr : ∀ x y z, less x y = true -> less y z = true -> less x z = true) (tri : ∀ x y, less x y = true \/ x = y \/ less y x = true) (l : List α) : (qaP less l).Pairwise fun x y => less x y = true := by
 have key : ∀ (l a : List α), a.Pairwise (fun x y => less x y = true) -> (l.foldl (insL less) a).Pairwise fun x y => less x y = true := by
  intro l; induction l with
  | nil => intro a h; exact h
  | cons x l ih => intro a h; exact ih _ (qkI hir htr tri h x)
 exact key l [] List.Pairwise.nil
end
theorem qcL (l : List CDot) : (qaP qac l).Pairwise fun x y => qac x y = true := qj3 qb4 (fun _ _ _ => qch) qeg l
theorem qfe {l m : List CDot} (hl : l.Pairwise fun x y => qac x y = true) (h : ∀ x, x ∈ l ↔ x ∈ m) : l = qaP qac m :=
 qeu qb4 (fun _ _ _ => qch) hl (qcL m) fun x => by rw [h, qcY]
theorem GRel.al {G : GMap} {m : CMap} (h : GRel G m) (k : CKey) (d : CDot) : isAl G.alive k d ↔ ∃ e ∈ keyM m k, e.dot = d := by
 rw [h.alv.al]; unfold keyM qaj qds; simp only [List.mem_filter, Bool.and_eq_true, Bool.not_eq_true', decide_eq_false_iff_not, beq_iff_eq, decide_eq_true_eq]; constructor
 · rintro ⟨x, h1, h2, h3, h4⟩; have hd := h.keys d x h1; have hk := (h.kept x.2).2 ⟨x.1, by rw [hd, h1]⟩; exact ⟨x.2, ⟨⟨hk, h2, fun hm => h4 ((h.dead d).2 (hd ▸ hm))⟩, h3⟩, hd⟩
 · rintro ⟨e, ⟨⟨hk, h2, h3⟩, h4⟩, rfl⟩; obtain ⟨v, hv⟩ := (h.kept e).1 hk; exact ⟨(v, e), hv, h2, h4, fun hd => h3 ((h.dead _).1 hd)⟩
theorem qmT {G : GMap} {m : CMap} (h : GRel G m) (k : CKey) : ((keyM m k).map (·.dot)).Pairwise fun x y => qac x y = true := by
 rw [List.pairwise_map]; exact List.Pairwise.sublist ((List.filter_sublist).trans List.filter_sublist) h.sorted
theorem qqo {G : GMap} {m : CMap} (h : GRel G m) {k : CKey} {l : List CDot} (hl : ∀ d, d ∈ l ↔ isAl G.alive k d) : qaP qac l = (keyM m k).map (·.dot) :=
 (qfe (qmT h k) fun d => by rw [hl, h.al]; simp).symm
theorem qlV {G : GMap} {m : CMap} (h : GRel G m) {k : CKey} {e : CEvent} (he : e ∈ keyM m k) : ∃ v, getL G.kept e.dot = some (v, e) :=
 (h.kept e).1 (List.mem_filter.1 (List.mem_filter.1 he).1).1
theorem qdJ {G : GMap} {m : CMap} (h : GRel G m) (k : CKey) : (getL G.alive k).isSome = true ↔ keyM m k ≠ [] := by
 constructor
 · intro hs; obtain ⟨x, hx⟩ := Option.isSome_iff_exists.1 hs; have hf := h.alv.full k x hx; obtain ⟨y, L, hL⟩ : ∃ y L, x.2 = y :: L := by
    cases e : x.2 with
    | nil => exact absurd e hf
    | cons y L => exact ⟨y, L, rfl⟩
   obtain ⟨e, he, _⟩ := (h.al k y.1).1 ⟨x, hx, by rw [hL]; simp [getL]⟩; exact List.ne_nil_of_mem he
 · intro hne; obtain ⟨e, he⟩ := List.exists_mem_of_ne_nil _ hne; obtain ⟨x, hx, _⟩ := (h.al k e.dot).2 ⟨e, he, rfl⟩; rw [hx]; rfl
theorem qtv : ∀ {l : List CEvent} {y : CEvent}, winL l = some y -> y ∈ l := by
 have key : ∀ (l : List CEvent) (b : Option CEvent) (y : CEvent), l.foldl (fun b e => match b with | none => some e | some y => if qa3 e.stamp y.stamp then some y else some e) b = some y -> b = some y \/ y ∈ l := by
  intro l; induction l with
  | nil => intro b y h; exact .inl h
  | cons x l ih =>
   intro b y h; rcases ih _ y h with h1 | h1
   · cases b with
     | none => cases h1; exact .inr List.mem_cons_self
     | some z =>
      simp only at h1; split at h1
      · exact .inl h1
      · cases h1; exact .inr List.mem_cons_self
   · exact .inr (List.mem_cons_of_mem _ h1)
 intro l y h; exact (key l none y h).resolve_left (by simp)
theorem qrg {l : List CEvent} (h : l ≠ []) : ∃ y, winL l = some y := by
 obtain ⟨y, hy⟩ := qfG (l := l) (x := l.length) (List.length_pos_iff.2 h) (Nat.le_refl _); rw [List.take_length] at hy; exact ⟨y, hy⟩
theorem qb0 {m : CMap} {k : CKey} (h : keyM m k ≠ []) : (qag m k).1 ∈ keyM m k := by
 obtain ⟨y, hy⟩ := qrg h; unfold qag; rw [hy]; exact qtv hy
theorem keyM_mem {m : CMap} {k : CKey} {e : CEvent} : e ∈ keyM m k ↔ e ∈ qaj m /\ e.key = k := by
 unfold keyM; rw [List.mem_filter, decide_eq_true_eq]
theorem qlg {G : GMap} {m : CMap} (h : GRel G m) {x y : CEvent} (hx : x ∈ qaj m) (hy : y ∈ qaj m) (e : x.dot = y.dot) : x = y := by
 obtain ⟨u, hu⟩ := (h.kept x).1 (List.mem_filter.1 hx).1; obtain ⟨v, hv⟩ := (h.kept y).1 (List.mem_filter.1 hy).1; rw [e, hv] at hu
 cases hu; rfl
theorem qhe {G : GMap} {m : CMap} (h : GRel G m) : ∀ n, n <= (qaj m).length -> (winF m ((qaj m).take n)).Pairwise (fun x y => qeY x y = true) /\ ∀ y, y ∈ winF m ((qaj m).take n) ↔ ∃ x ∈ (qaj m).take n, (qag m x.key).1.dot = x.dot /\ y = (qag m x.key).1
 | 0, _ => by simp [winF]
 | n + 1, hn => by
  have hn' : n < (qaj m).length := hn; obtain ⟨h1, h2⟩ := qhe h n (by omega); have hf := qj8 (m := m) hn'; have hmem : ∀ x, x ∈ (qaj m).take (n + 1) ↔ x ∈ (qaj m).take n \/ x = (qaj m)[n] := fun x => by
    rw [List.take_succ_eq_append_getElem hn', List.mem_append, List.mem_singleton]
  rw [hf]; have hal : (qaj m)[n] ∈ qaj m := List.getElem_mem hn'; have hkn : keyM m (qaj m)[n].key ≠ [] := List.ne_nil_of_mem (keyM_mem.2 ⟨hal, rfl⟩); have hw := keyM_mem.1 (qb0 hkn); split
  · rename_i hd; have hwe : (qag m (qaj m)[n].key).1 = (qaj m)[n] := qlg h hw.1 hal hd; refine ⟨qfu (less := qeY) (fun x y z => qbM _ _ _) h1 fun y hy => ?_, fun y => ?_⟩
    · obtain ⟨x, hx, hxd, rfl⟩ := (h2 y).1 hy; rcases qde (qag m x.key).1.key (qag m (qaj m)[n].key).1.key with h3 | h3 | h3
      · exact .inl h3
      · exfalso; have hxa : x ∈ qaj m := List.mem_of_mem_take hx; have hkx : keyM m x.key ≠ [] := List.ne_nil_of_mem (keyM_mem.2 ⟨hxa, rfl⟩); have hwx := keyM_mem.1 (qb0 hkx); rw [hwx.2, hw.2] at h3; have hxe : x = (qaj m)[n] := by
          refine qlg h hxa hal ?_; rw [<- hxd, h3, hd]
        obtain ⟨j, hj, hje⟩ := List.getElem_of_mem hx; have hjn : j < n := by simp at hj; omega
        rw [List.getElem_take] at hje; have hs := List.pairwise_iff_getElem.1 (List.Pairwise.sublist List.filter_sublist h.sorted : (qaj m).Pairwise _) j n (by omega) hn' hjn; rw [hje, hxe, qb4] at hs
        cases hs
      · exact .inr h3
    · unfold insW; rw [qkM, h2]; constructor
      · rintro (⟨x, hx, hx2⟩ | rfl)
        · exact ⟨x, (hmem x).2 (.inl hx), hx2⟩
        · exact ⟨_, (hmem _).2 (.inr rfl), hd, rfl⟩
      · rintro ⟨x, hx, hx2, rfl⟩; rcases (hmem x).1 hx with hx | rfl
        · exact .inl ⟨x, hx, hx2, rfl⟩
        · exact .inr rfl
  · rename_i hd; refine ⟨h1, fun y => ?_⟩; rw [h2]; constructor
    · rintro ⟨x, hx, hx2⟩; exact ⟨x, (hmem x).2 (.inl hx), hx2⟩
    · rintro ⟨x, hx, hx2, hx3⟩; rcases (hmem x).1 hx with hx | rfl
      · exact ⟨x, hx, hx2, hx3⟩
      · exact absurd hx2 hd
theorem qht {G : GMap} {m : CMap} (h : GRel G m) : (qaw m).Pairwise fun x y => qeY x y = true := by
 have := (qhe h _ (Nat.le_refl _)).1; rwa [List.take_length] at this
theorem qdn {G : GMap} {m : CMap} (h : GRel G m) (y : CEvent) : y ∈ qaw m ↔ ∃ k, keyM m k ≠ [] /\ y = (qag m k).1 := by
 have h2 := (qhe h _ (Nat.le_refl _)).2 y; rw [List.take_length] at h2; unfold qaw; rw [h2]; constructor
 · rintro ⟨x, hx, _, rfl⟩; exact ⟨x.key, List.ne_nil_of_mem (keyM_mem.2 ⟨hx, rfl⟩), rfl⟩
 · rintro ⟨k, hk, rfl⟩; have hw := keyM_mem.1 (qb0 hk); exact ⟨(qag m k).1, hw.1, by rw [hw.2], by rw [hw.2]⟩
theorem qnk {G : GMap} {m : CMap} (h : GRel G m) {ks : List CKey} (hs : ks.Pairwise fun x y => qa2 x y = true) (hm : ∀ k, k ∈ ks ↔ (getL G.alive k).isSome = true) : ks.map (fun k => (qag m k).1) = qaw m := by
 have hkey : ∀ k ∈ ks, ((qag m k).1).key = k := fun k hk => (keyM_mem.1 (qb0 ((qdJ h k).1 ((hm k).1 hk)))).2
 refine qeu (less := qeY) (fun x => qcO _) (fun x y z => qbM _ _ _) ?_ (qht h) fun y => ?_
 · rw [List.pairwise_map]; refine List.Pairwise.imp_of_mem (fun {a b} ha hb hab => ?_) hs; show qa2 _ _ = true
   rw [hkey a ha, hkey b hb]; exact hab
 · rw [List.mem_map, qdn h]; constructor
   · rintro ⟨k, hk, rfl⟩; exact ⟨k, (qdJ h k).1 ((hm k).1 hk), rfl⟩
   · rintro ⟨k, hk, rfl⟩; exact ⟨k, (hm k).2 ((qdJ h k).2 hk), rfl⟩
end Go.Proofs
set_option maxHeartbeats 4000000
namespace Go.Proofs
open Go Go.Am Go.RowKit Go.Sy Go.Gm
def encA (a : Int × Int) : Value := .agg #[.int .i64 a.1, .int .i64 a.2]
def encD (d : CDot) : Value := .agg #[.int .i64 d.dev, .int .i64 d.inc, .int .i64 d.seq]
def encK (k : CKey) : Value := .agg #[.string ⟨k.name.toArray⟩, .string ⟨k.domain.toArray⟩, .string ⟨k.path.toArray⟩]
def encJ (n : Int) : Value := .int .i64 n
theorem qxj (x y : Int × Int) (w : World) : (Op.equal qpj (encA x) (encA y)).run Tryz.prog w = .ok (decide (x = y)) w := by
 letI : Inhabited DrP := ⟨⟨True, #[]⟩⟩
 have h0 : eqT Tryz.tab 8 qpj (.agg [.int .i64 x.1, .int .i64 x.2]) (.agg [.int .i64 y.1, .int .i64 y.2]) = (if (x.1 == y.1) = true then (if (x.2 == y.2) = true then .ok true else .ok false) else .ok false : R Bool) := by kernel_rfl
 have h : eqT Tryz.tab 8 qpj (.agg [.int .i64 x.1, .int .i64 x.2]) (.agg [.int .i64 y.1, .int .i64 y.2]) = .ok (decide (x = y)) := by
  rw [h0]; by_cases e1 : x.1 = y.1 <;> by_cases e2 : x.2 = y.2 <;> simp [e1, e2, Prod.ext_iff]
 exact qeh Tryz.tabOk (E := ⟨fun i => i, fun _ => 0⟩) 8 qpj _ _ _ h 9992 w
theorem qxk (x y : CDot) (w : World) : (Op.equal Ty.Dot (encD x) (encD y)).run Tryz.prog w = .ok (decide (x = y)) w := by
 letI : Inhabited DrP := ⟨⟨True, #[]⟩⟩
 have h0 : eqT Tryz.tab 8 Ty.Dot (.agg [.int .i64 x.dev, .int .i64 x.inc, .int .i64 x.seq]) (.agg [.int .i64 y.dev, .int .i64 y.inc, .int .i64 y.seq]) = (do if (<- (if (x.dev == y.dev) = true then (if (x.inc == y.inc) = true then .ok true else .ok false) else .ok false : R Bool)) = true then (if (x.seq == y.seq) = true then .ok true else .ok false) else .ok false : R Bool) := by kernel_rfl
 have h : eqT Tryz.tab 8 Ty.Dot (.agg [.int .i64 x.dev, .int .i64 x.inc, .int .i64 x.seq]) (.agg [.int .i64 y.dev, .int .i64 y.inc, .int .i64 y.seq]) = .ok (decide (x = y)) := by
  rw [h0]; by_cases e1 : x.dev = y.dev <;> by_cases e2 : x.inc = y.inc <;> by_cases e3 : x.seq = y.seq
  all_goals first | (rw [decide_eq_true (CDot.ext_iff.2 ⟨e1, e2, e3⟩)]; simp only [e1, e2, e3, beq_self_eq_true, if_true]; rfl) | (rw [decide_eq_false (fun h => by rw [CDot.ext_iff] at h; simp_all)]; simp [e1, e2, e3]; try rfl)
 exact qeh Tryz.tabOk (E := ⟨fun i => i, fun _ => 0⟩) 8 Ty.Dot _ _ _ h 9992 w
theorem qst (x y : CKey) : x = y ↔ x.name = y.name /\ x.domain = y.domain /\ x.path = y.path := by
 cases x; cases y; simp
theorem qxl (x y : CKey) (w : World) : (Op.equal qpk (encK x) (encK y)).run Tryz.prog w = .ok (decide (x = y)) w := by
 letI : Inhabited DrP := ⟨⟨True, #[]⟩⟩
 have h0 : eqT Tryz.tab 8 qpk (.agg [.str x.name, .str x.domain, .str x.path]) (.agg [.str y.name, .str y.domain, .str y.path]) = (if (x.name == y.name) = true then (if (x.domain == y.domain) = true then (if (x.path == y.path) = true then .ok true else .ok false) else .ok false) else .ok false : R Bool) := by kernel_rfl
 have h : eqT Tryz.tab 8 qpk (.agg [.str x.name, .str x.domain, .str x.path]) (.agg [.str y.name, .str y.domain, .str y.path]) = .ok (decide (x = y)) := by
  rw [h0]; by_cases e1 : x.name = y.name <;> by_cases e2 : x.domain = y.domain <;> by_cases e3 : x.path = y.path <;> simp [e1, e2, e3, qst]
 exact qeh Tryz.tabOk (E := ⟨fun i => i, fun _ => 0⟩) 8 qpk _ _ _ h 9992 w
theorem qty : KeyLaw Tryz.prog qpj encA := ⟨fun b k w => by kernel_rfl, qxj, fun k => by simp [Instr.sameBits, encA], ⟨_, Tryz.underlying33⟩⟩
theorem zz11 : KeyLaw Tryz.prog Ty.Dot encD := ⟨fun b k w => by kernel_rfl, qxk, fun k => by simp [Instr.sameBits, encD], ⟨_, Tryz.underlying35⟩⟩
theorem qkl (a : ByteArray) : (a == a) = true := by
 rw [beq_toListBytes]; simp
theorem qri : KeyLaw Tryz.prog qpk encK := ⟨fun b k w => by kernel_rfl, qxl, fun k => by (simp [Instr.sameBits, encK]; exact ⟨qkl _, qkl _, qkl _⟩), ⟨_, Tryz.underlying24⟩⟩
end Go.Proofs
set_option maxHeartbeats 1000000
namespace Go.Proofs
open Go Go.Am Go.RowKit Go.Sy Go.Gm
theorem qpi (w : World) : (zeroValue 3).run Tryz.prog w = .ok (encJ 0) w := by kernel_rfl
theorem zz57 {w : World} {bs bv : Nat} {L : List ((Int × Int) × Int)} (hs : w.cell? ⟨bs, 0, none⟩ = some (.map (some bv))) (hm : MapIs w bv encA encJ L) (a i : Int) :
  Calls Tryz.prog 67 #[.pointer (some ⟨bs, 0, none⟩), .agg #[.int .i64 a, .int .i64 i]] w fun e w' => e = .returned (.int .i64 ((getL L (a, i)).getD 0)) /\ Below w.heap.size w w' := by
 have hlk : ∀ w' : World, w'.heap[bv]? = w.heap[bv]? -> (Instr.lookup 147 (.map (some bv)) (.agg #[.int .i64 a, .int .i64 i]) false).run Tryz.prog w' = .ok (.int .i64 ((getL L (a, i)).getD 0)) w' := fun w' h => by
  have := (hm.same h).lookup qty Tryz.underlying147 (qpi w') (a, i) false; simp only [Bool.false_eq_true, if_false] at this; rw [show encA (a, i) = .agg #[.int .i64 a, .int .i64 i] from rfl] at this; rw [this]
  cases getL L (a, i) <;> rfl
 have hbv : bv < w.heap.size := by
  obtain ⟨es, clk, h, _⟩ := hm.at_; exact (Array.getElem?_eq_some_iff.1 h).1
 have hbs : bs < w.heap.size := by
  unfold World.cell? at hs
  cases h : w.heap[bs]? with
  | none => simp [h] at hs
  | some o => exact (Array.getElem?_eq_some_iff.1 h).1
 go_enter Tryz.func67, Tryz.ntmps67
 go_wp2; have hl2 := hlk (w.alloc (.cells #[.int .i64 a, .int .i64 i] 33)).drew (Below.heap_alloc w _ bv hbv); have hs2 : (w.alloc (.cells #[.int .i64 a, .int .i64 i] 33)).cell? ⟨bs, 0, none⟩ = some (.map (some bv)) := by
  rw [<- hs]; exact ((Below.refl w.heap.size w).alloc (Nat.le_refl _) _).cell hbs
 clear hlk; go_region
 go_wp2; go_ret; exact ⟨rfl, ((Below.refl w.heap.size w).alloc (Nat.le_refl _) _).drew⟩
end Go.Proofs
namespace Go.Proofs
open Go Go.Am Go.RowKit Go.Sy Go.Gm
theorem qkR {Fz : Nat -> Option AO} {n : Nat} (l : List Int) : SimP Fz (.agg (l.map i64)) (absA n (.agg (l.map fun z => Value.int .i64 z).toArray)) := by
 unfold absA; refine .agg (by simp) fun i c v hc hv => ?_
 simp only [List.getElem?_map] at hc hv
 cases h : l[i]? with
 | none => rw [h] at hc; cases hc
 | some z =>
  rw [h] at hc; simp [h] at hv
  cases hc; rw [<- hv]; exact .int _ _
theorem qpz {C : Inhabited DrP -> Con} {f : FuncId} {fn : Func} {body : Code} (hc : ∀ I : Inhabited DrP, @Go.Sy.ConOK I Tryz.prog Tryz.tab f (C I)) (hfn : Tryz.tab.fns.get f = some fn) (hb : fn.body = some body) {args : List Value} {w : World} {b : Bool}
  (hy : ∀ I : Inhabited DrP, ∃ y, (C I).pre y /\ PL (rowH Tryz.tab w).get ((C I).args y) (args.map (absA w.heap.size)) /\ (C I).res y = .bool b) : Calls Tryz.prog f args.toArray w fun e w' => e = .returned (.bool b) /\ Below w.heap.size w w' := by
 letI : Inhabited DrP := ⟨⟨True, #[]⟩⟩
 obtain ⟨y, h1, h2, h3⟩ := hy inferInstance; refine Calls.mono (zz88 zz1.ok (hc inferInstance) hfn hb h1 h2 (OldW.of0 rfl _)) ?_; rintro e w' ⟨v, rfl, hv, hbel, _⟩; rw [h3] at hv
 cases hv; exact ⟨rfl, hbel⟩
end Go.Proofs
set_option maxHeartbeats 4000000
namespace Go.Proofs
open Go Go.Am Go.RowKit Go.Sy Go.Gm
variable [Inhabited DrP]
def qtA (p : World -> Prop) : Prop := ∀ w, OldW w -> p w
theorem quL {w : World} {p : Nat -> Prop} {g : Bool} {a : Addr} {v : Value} (h : Rd w p g (.wp a) v) : v = .pointer (some a) := by cases h; rfl
end Go.Proofs
namespace Go.Proofs
open Go Go.Am Go.RowKit Go.Sy Go.Gm
def qkr [Inhabited DrP] : Con := { Y := CDot, pre := fun _ => True, args := fun d => [.agg [i64 d.dev, i64 d.inc], i64 d.seq], res := fun d => .bool (qbt d) }
theorem qqW [Inhabited DrP] : CO qv3 qkr := qae (C := qkr) (cfg := fun y => cfgE qp0 (qaQ y)) zz1 (fun _ => rfl) (fun _ => qil) (n := 400) (by
 intro (d : CDot) _
 (conv => whnf)
 refine ⟨d, ?_⟩
 repeat ((conv => whnf); first | refine ⟨rfl, ?_⟩ | refine ⟨trivial, ?_⟩)
 repeat' (first | exact trivial | exact rfl | ((conv => whnf); first | refine brI (fun _ => ?_) fun _ => ?_ | refine And.intro ?_ ?_)))
end Go.Proofs
set_option maxHeartbeats 2000000
namespace Go.Proofs
open Go Go.Am Go.RowKit Go.Sy Go.Gm
theorem qwH (a i n : Int) (w : World) : Calls Tryz.prog 147 #[.agg #[.int .i64 a, .int .i64 i], .int .i64 n] w fun e w' => e = .returned (.bool (qbt ⟨a, i, n⟩)) /\ Below w.heap.size w w' :=
 qpz (C := fun I => @qkr I) (fun I => @qqW I) (hfn := rfl) (hb := rfl) (args := [.agg #[.int .i64 a, .int .i64 i], .int .i64 n]) (fun I => ⟨⟨a, i, n⟩, trivial, ⟨rfl, fun j c v hc hv => by
  match j with
  | 0 => cases hc; cases hv; exact qkR [a, i]
  | 1 => cases hc; cases hv; exact .int _ _
  | _ + 2 => cases hc⟩, rfl⟩)
end Go.Proofs
namespace Go.Proofs
open Go Go.Am Go.RowKit Go.Sy Go.Gm
theorem qwQ {w : World} {bv : Nat} {L : List ((Int × Int) × Int)} (hm : MapIs w bv encA encJ L) (a i : Int) : ∀ w' : World, w'.heap[bv]? = w.heap[bv]? -> (Instr.lookup 147 (.map (some bv)) (.agg #[.int .i64 a, .int .i64 i]) false).run Tryz.prog w' = .ok (.int .i64 ((getL L (a, i)).getD 0)) w' := fun w' h => by
 have := (hm.same h).lookup qty Tryz.underlying147 (qpi w') (a, i) false; simp only [Bool.false_eq_true, if_false] at this; rw [show encA (a, i) = .agg #[.int .i64 a, .int .i64 i] from rfl] at this; rw [this]
 cases getL L (a, i) <;> rfl
structure But (S : Nat -> Prop) (w w' : World) : Prop where
 os : w'.os = w.os
 tape : w'.tape = w.tape
 output : w'.output = w.output
 size : w.heap.size <= w'.heap.size
 block : ∀ k, k < w.heap.size -> ¬ S k -> w'.heap[k]? = w.heap[k]?
theorem zz7 {S : Nat -> Prop} {w w' : World} (h : Below w.heap.size w w') : But S w w' := ⟨h.os, h.tape, h.output, h.size, fun k hk _ => h.block k hk⟩
theorem But.trans {S : Nat -> Prop} {a b c : World} (h : But S a b) (k : But S b c) : But S a c :=
 ⟨k.os.trans h.os, k.tape.trans h.tape, k.output.trans h.output, Nat.le_trans h.size k.size, fun i hi hS => (k.block i (Nat.lt_of_lt_of_le hi h.size) hS).trans (h.block i hi hS)⟩
theorem But.mono {S T : Nat -> Prop} {w w' : World} (h : But S w w') (hST : ∀ k, k < w.heap.size -> S k -> T k) : But T w w' := ⟨h.os, h.tape, h.output, h.size, fun k hk hT => h.block k hk fun hS => hT (hST k hk hS)⟩
theorem But.setO {S : Nat -> Prop} (w : World) {b : Nat} (o : Obj) (hb : S b) : But S w.drew (World.setO w.drew b o) := ⟨rfl, rfl, rfl, by simp [World.setO], fun k _ hS => by
 show (w.drew.heap.setIfInBounds b o)[k]? = _
 have hne : ¬ b = k := by rintro rfl; exact hS hb
 rw [Array.getElem?_setIfInBounds, if_neg hne]⟩
theorem But.drew {S : Nat -> Prop} {a w : World} (h : But S a w) : But S a w.drew := ⟨h.os, h.tape, h.output, h.size, h.block⟩
theorem qwE (b : Nat) (w : World) : (binOp BinOp.eql 147 (.map (some b)) (.map none)).run Tryz.prog w = .ok (.bool false) w := by kernel_rfl
theorem qwG {w : World} {bs bv : Nat} {L : List ((Int × Int) × Int)} (hs : w.cell? ⟨bs, 0, none⟩ = some (.map (some bv))) (hm : MapIs w bv encA encJ L) (a i n : Int) (hne : bs ≠ bv) (hd : qbt ⟨a, i, n⟩ = true) (hlt : (getL L (a, i)).getD 0 < n) :
  Calls Tryz.prog 111 #[.pointer (some ⟨bs, 0, none⟩), .agg #[.int .i64 a, .int .i64 i], .int .i64 n] w fun e w' => e = .returned (.bool true) /\ But (· = bv) w w' /\ MapIs w' bv encA encJ (qaq L (a, i) n) := by
 have hlk := qwQ hm a i; have hc := fun w => qwH a i n w
 rw [hd] at hc; have hbv : bv < w.heap.size := by
  obtain ⟨es, clk, h, _⟩ := hm.at_; exact (Array.getElem?_eq_some_iff.1 h).1
 have hbs : bs < w.heap.size := by
  unfold World.cell? at hs
  cases h : w.heap[bs]? with
  | none => simp [h] at hs
  | some o => exact (Array.getElem?_eq_some_iff.1 h).1
 have hle : decide (n <= (getL L (a, i)).getD 0) = false := decide_eq_false (by omega); have hmn := fun w => qwE bv w
 go_enter Tryz.func111, Tryz.ntmps111
 go_wp2_with fail
 have hq : Below w.heap.size w (w.alloc (.cells #[.int .i64 a, .int .i64 i] 33)).drew := ((Below.refl w.heap.size w).alloc (Nat.le_refl _) _).drew; have hsz : (w.alloc (.cells #[.int .i64 a, .int .i64 i] 33)).drew.heap.size = w.heap.size + 1 := by simp
 have hn0 : (w.alloc (.cells #[.int .i64 a, .int .i64 i] 33)).drew.cell? ⟨w.heap.size, 0, none⟩ = some (.int .i64 a) := by simp
 have hn1 : (w.alloc (.cells #[.int .i64 a, .int .i64 i] 33)).drew.cell? ⟨w.heap.size, 1, none⟩ = some (.int .i64 i) := by simp
 go_region_with (go_at_call 147; refine (hc _).mono ?_; rintro e w1 ⟨rfl, hb⟩; have hs1 : w1.cell? ⟨bs, 0, none⟩ = some (.map (some bv)) := (hb.cell (by rw [hsz]; show bs < _; omega)).trans ((hq.cell hbs).trans hs); have hl1 := hlk w1 ((hb.block bv (by rw [hsz]; omega)).trans (hq.block bv hbv)); have hb0 := (hb.cell (p := ⟨w.heap.size, 0, none⟩) (by rw [hsz]; show w.heap.size < _; omega)).trans hn0; have hb1 := (hb.cell (p := ⟨w.heap.size, 1, none⟩) (by rw [hsz]; show w.heap.size < _; omega)).trans hn1)
 all_goals (have hmw : MapIs w1.drew bv encA encJ L := hm.same ((hb.block bv (by rw [hsz]; omega)).trans (hq.block bv hbv)))
 all_goals (obtain ⟨es, clk, hu, hmu⟩ := hmw.update qty Tryz.underlying147 (a, i) n)
 all_goals (rw [show encA (a, i) = .agg #[.int .i64 a, .int .i64 i] from rfl, show encJ n = .int .i64 n from rfl] at hu)
 all_goals (go_wp2_with fail)
 all_goals (go_region_with fail)
 all_goals (go_wp2)
 all_goals (go_ret)
 all_goals (exact ⟨rfl, ((zz7 hq).trans (zz7 hb).drew).trans (But.setO _ _ rfl), hmu⟩)
end Go.Proofs
namespace Go.Proofs
open Go Go.Am Go.RowKit Go.Sy Go.Gm
theorem qvu (a i n : Int) (w : World) : Calls Tryz.prog 107 #[.agg #[.int .i64 a, .int .i64 i, .int .i64 n]] w fun e w' => e = .returned (.bool (qbt ⟨a, i, n⟩)) /\ Below w.heap.size w w' :=
 qpz (C := fun I => qnC qbt) (fun I => @qum I) (hfn := rfl) (hb := rfl) (args := [.agg #[.int .i64 a, .int .i64 i, .int .i64 n]]) (fun I => ⟨⟨a, i, n⟩, trivial, ⟨rfl, fun j c v hc hv => by
  match j with
  | 0 => cases hc; cases hv; exact qkR [a, i, n]
  | _ + 1 => cases hc⟩, rfl⟩)
theorem qph {a i n : Int} (hd : qbt ⟨a, i, n⟩ = true) : IntKind.i64.wrap (n - 1) = n - 1 := by
 letI : Inhabited DrP := ⟨⟨True, #[]⟩⟩
 have h : leI 1 n = true /\ leI n 4294967296 = true := by
  unfold qbt at hd; simp only [Bool.and_eq_true] at hd; exact ⟨hd.1.2, hd.2⟩
 rw [qaX, qaX, decide_eq_true_eq, decide_eq_true_eq] at h; exact IntWalk.i64_in _ (by omega)
theorem qwW {w : World} {bs bv : Nat} {L : List ((Int × Int) × Int)} (hs : w.cell? ⟨bs, 0, none⟩ = some (.map (some bv))) (hm : MapIs w bv encA encJ L) (a i n : Int) (hne : bs ≠ bv) (hd : qbt ⟨a, i, n⟩ = true) (hlt : (getL L (a, i)).getD 0 = n - 1) :
    Calls Tryz.prog 69 #[.pointer (some ⟨bs, 0, none⟩), .agg #[.int .i64 a, .int .i64 i, .int .i64 n]] w fun e w' => e = .returned (.bool true) /\ But (· = bv) w w' /\ MapIs w' bv encA encJ (qaq L (a, i) n) := by
  have hc := fun w => qvu a i n w
  rw [hd] at hc; have hbv : bv < w.heap.size := by
    obtain ⟨es, clk, h, _⟩ := hm.at_; exact (Array.getElem?_eq_some_iff.1 h).1
  have hbs : bs < w.heap.size := by
    unfold World.cell? at hs
    cases h : w.heap[bs]? with
    | none => simp [h] at hs
    | some o => exact (Array.getElem?_eq_some_iff.1 h).1
  go_enter Tryz.func69, Tryz.ntmps69
  go_wp2_with fail
  have hq : Below w.heap.size w (w.alloc (.cells #[.int .i64 a, .int .i64 i, .int .i64 n] 35)).drew := ((Below.refl w.heap.size w).alloc (Nat.le_refl _) _).drew; have hsz : (w.alloc (.cells #[.int .i64 a, .int .i64 i, .int .i64 n] 35)).drew.heap.size = w.heap.size + 1 := by simp
  have hn0 : (w.alloc (.cells #[.int .i64 a, .int .i64 i, .int .i64 n] 35)).drew.cell? ⟨w.heap.size, 0, none⟩ = some (.int .i64 a) := by simp
  have hn1 : (w.alloc (.cells #[.int .i64 a, .int .i64 i, .int .i64 n] 35)).drew.cell? ⟨w.heap.size, 1, none⟩ = some (.int .i64 i) := by simp
  have hn2 : (w.alloc (.cells #[.int .i64 a, .int .i64 i, .int .i64 n] 35)).drew.cell? ⟨w.heap.size, 2, none⟩ = some (.int .i64 n) := by simp
  have hw : IntKind.i64.wrap (n - 1) = n - 1 := qph hd; have hge : ∀ {x : World} (_ : x.cell? ⟨bs, 0, none⟩ = some (.map (some bv))) (_ : MapIs x bv encA encJ L), Calls Tryz.prog 67 #[.pointer (some ⟨bs, 0, none⟩), .agg #[.int .i64 a, .int .i64 i]] x fun e w' => e = .returned (.int .i64 (n - 1)) /\ Below x.heap.size x w' := fun h1 h2 => by
    have := zz57 h1 h2 a i; rw [hlt] at this; exact this
  go_region_with (first
   | (go_at_call 107; refine (hc _).mono ?_; rintro e w1 ⟨rfl, hb⟩; have hq1 := hq.trans (hb.mono (by rw [hsz]; omega)); have hs1 : w1.cell? ⟨bs, 0, none⟩ = some (.map (some bv)) := (hq1.cell hbs).trans hs; have hm1 : MapIs w1 bv encA encJ L := hm.same (hq1.block bv hbv); have hz1 := hb.size; have hb0 := (hb.cell (p := ⟨w.heap.size, 0, none⟩) (by rw [hsz]; show w.heap.size < _; omega)).trans hn0; have hb1 := (hb.cell (p := ⟨w.heap.size, 1, none⟩) (by rw [hsz]; show w.heap.size < _; omega)).trans hn1; have hb2 := (hb.cell (p := ⟨w.heap.size, 2, none⟩) (by rw [hsz]; show w.heap.size < _; omega)).trans hn2)
   | (go_at_call 67; refine (hge (by assumption) (by assumption)).mono ?_; rintro e w2 ⟨rfl, hc2⟩; have hq2 := hq1.trans (hc2.mono (by rw [hsz] at hz1; omega)); have hs2 : w2.cell? ⟨bs, 0, none⟩ = some (.map (some bv)) := (hq2.cell hbs).trans hs; have hm2 : MapIs w2 bv encA encJ L := hm.same (hq2.block bv hbv); have hc0 := (hc2.cell (p := ⟨w.heap.size, 0, none⟩) (by rw [hsz] at hz1; show w.heap.size < _; omega)).trans hb0; have hc1 := (hc2.cell (p := ⟨w.heap.size, 1, none⟩) (by rw [hsz] at hz1; show w.heap.size < _; omega)).trans hb1; have hc2' := (hc2.cell (p := ⟨w.heap.size, 2, none⟩) (by rw [hsz] at hz1; show w.heap.size < _; omega)).trans hb2)
   | (go_at_call 111; refine (qwG hs2 hm2 a i n hne hd (by omega)).mono ?_; rintro e w3 ⟨rfl, hbut, hm3⟩))
  all_goals (go_wp2)
  all_goals (go_ret)
  all_goals (exact ⟨rfl, (zz7 hq2).trans hbut, hm3⟩)
end Go.Proofs
set_option maxHeartbeats 1000000
namespace Go.Proofs
open Go Go.Am Go.RowKit Go.Sy Go.Gm
def qa6 (w w' : World) : Prop := ∀ (b : Nat) (arr : Array Value) (e : TypeId) (fz : Nat × Nat), w.heap[b]? = some (.cells arr e fz) -> w'.heap[b]? = some (.cells arr e fz)
def DotsV (w : World) (l : List CDot) (v : Value) : Prop := (l = [] /\ ∃ a c, v = .slice a 0 c) \/ ∃ b off cap arr e fz, v = .slice (some ⟨b, off, none⟩) l.length cap /\ w.heap[b]? = some (.cells arr e fz) /\ l.length <= cap /\ off + l.length * 3 <= arr.size /\
 ∀ i (h : i < l.length), arr[off + i * 3]? = some (.int .i64 l[i].dev) /\ arr[off + i * 3 + 1]? = some (.int .i64 l[i].inc) /\ arr[off + i * 3 + 2]? = some (.int .i64 l[i].seq)
theorem qbd [Inhabited DrP] {w : World} {p : Nat -> Prop} {g : Bool} {k : IntKind} {n : Int} {v : Value} (h : Rd w p g (.int k n) v) : v = .int k n := by cases h; rfl
theorem qdN [Inhabited DrP] {w : World} {p : Nat -> Prop} {g : Bool} {s : Bs} {v : Value} (h : Rd w p g (.str s) v) : v = .string ⟨s.toArray⟩ := by cases h; rfl
theorem qd4 [Inhabited DrP] {w : World} {p : Nat -> Prop} {g : Bool} {b : Bool} {v : Value} (h : Rd w p g (.bool b) v) : v = .bool b := by cases h; rfl
theorem qsh [Inhabited DrP] {w : World} {p : Nat -> Prop} {g : Bool} {l : List CDot} {v : Value} (h : Rd w p g (dots l) v) : DotsV w l v := by
 unfold dots at h
 cases h with
 | lstn h0 => exact .inl ⟨List.length_eq_zero_iff.1 h0, _, _, rfl⟩
 | lst0 h h0 a c => exact .inl ⟨List.length_eq_zero_iff.1 h0, _, _, rfl⟩
 | lst b off cap arr e fz sz u hp hb hs hl hn hc h1 h2 =>
  by_cases h0 : l = []
  · subst h0; exact .inl ⟨rfl, _, _, rfl⟩
  · have hsz : sz = 3 := by
     obtain ⟨x, l', rfl⟩ := List.exists_cons_of_ne_nil h0; exact (hn 0 x rfl).symm
    subst hsz; refine .inr ⟨b, off, cap, arr, e, fz, rfl, hb, hc, hl, fun i hi => ?_⟩; have hx : l[i]? = some l[i] := List.getElem?_eq_getElem hi; have e0 := h1 i _ 0 _ hx rfl; have e1 := h1 i _ 1 _ hx rfl; have e2 := h1 i _ 2 _ hx rfl; rw [qbd (h2 i _ 0 _ hx rfl)] at e0; rw [qbd (h2 i _ 1 _ hx rfl)] at e1; rw [qbd (h2 i _ 2 _ hx rfl)] at e2; exact ⟨e0, e1, e2⟩
theorem qs9 [Inhabited DrP] {w : World} {l : List CDot} {v : Value} (h : DotsV w l v) : Rd w (fun _ => True) true (dots l) v := by
 unfold dots; rcases h with ⟨rfl, a, c, rfl⟩ | ⟨b, off, cap, arr, e, fz, rfl, hb, hc, hl, hi⟩
 · exact .lst0 rfl rfl a c
 · refine .lst b off cap arr e fz 3 (fun i j => (arr[off + i * 3 + j]?).getD (.bool false)) trivial hb (by decide) hl (fun _ _ _ => rfl) hc (fun i x j v hx hv => ?_) (fun i x j v hx hv => ?_)
   all_goals
    have hil : i < l.length := (List.getElem?_eq_some_iff.1 hx).1; have hxe : l[i] = x := (List.getElem?_eq_some_iff.1 hx).2; obtain ⟨e0, e1, e2⟩ := hi i hil; rw [hxe] at e0 e1 e2; have hj : j < 3 := (List.getElem?_eq_some_iff.1 hv).1; match j, hj with
    | 0, _ => cases hv; first | exact e0.trans (by rw [Nat.add_zero, e0]; rfl) | (simp only [Nat.add_zero, e0, Option.getD_some]; exact .int _ _)
    | 1, _ => cases hv; first | exact e1.trans (by rw [e1]; rfl) | (simp only [e1, Option.getD_some]; exact .int _ _)
    | 2, _ => cases hv; first | exact e2.trans (by rw [e2]; rfl) | (simp only [e2, Option.getD_some]; exact .int _ _)
theorem DotsV.cells {w w' : World} (hc : qa6 w w') {l : List CDot} {v : Value} (h : DotsV w l v) : DotsV w' l v := by
 rcases h with h | ⟨b, off, cap, arr, e, fz, h1, h2, h3⟩
 · exact .inl h
 · exact .inr ⟨b, off, cap, arr, e, fz, h1, hc _ _ _ _ h2, h3⟩
abbrev encS (s : Bs) : Value := .string ⟨s.toArray⟩
def qci (e : CEvent) (v : Value) : Value := .agg #[.int .i64 e.dot.dev, .int .i64 e.dot.inc, .int .i64 e.dot.seq, .int .i64 e.stamp.wall, .int .i64 e.stamp.count, .int .i64 e.stamp.dev, .int .i64 e.kind, encS e.key.name, encS e.key.domain, encS e.key.path,
 encS e.cookie.value, .bool e.cookie.hostOnly, .bool e.cookie.secure, .bool e.cookie.httpOnly, .bool e.cookie.persistent, .int .i64 e.cookie.expiry, .int .i64 e.cookie.creation, .int .i64 e.cookie.access, v]
def EvV (w : World) (u : Value) (e : CEvent) : Prop := ∃ v, u = qci e v /\ DotsV w e.over v
theorem EvV.cells {w w' : World} (hc : qa6 w w') {u : Value} {e : CEvent} (h : EvV w u e) : EvV w' u e := by
 obtain ⟨v, h1, h2⟩ := h; exact ⟨v, h1, h2.cells hc⟩
def qkz (x : Value × CEvent) : Value := x.1
def qir (x : Nat × DL) : Value := .map (some x.1)
structure OMW (w : World) (n b bk ba bd bs bv : Nat) (G : GMap) : Prop where
 c0 : w.cell? ⟨b, 0, none⟩ = some (.map (some bk))
 c1 : w.cell? ⟨b, 1, none⟩ = some (.map (some ba))
 c2 : w.cell? ⟨b, 2, none⟩ = some (.map (some bd))
 c3 : w.cell? ⟨b, 3, none⟩ = some (.pointer (some ⟨bs, 0, none⟩))
 cv : w.cell? ⟨bs, 0, none⟩ = some (.map (some bv))
 mkp : MapIs w bk encD qkz G.kept
 ma : MapIs w ba encK qir G.alive
 md : MapIs w bd encD encJ G.dead
 mv : MapIs w bv encA encJ G.vec
 mi : ∀ x ∈ G.alive, MapIs w x.2.1 encD encJ x.2.2
 nd : (bk :: ba :: bd :: bv :: G.alive.map (·.2.1)).Nodup
 low : ∀ j ∈ b :: bs :: bk :: ba :: bd :: bv :: G.alive.map (·.2.1), n <= j
 ev : ∀ x ∈ G.kept, EvV w x.2.1 x.2.2
def qav (bk ba bd bv : Nat) (G : GMap) (j : Nat) : Prop := j ∈ bk :: ba :: bd :: bv :: G.alive.map (·.2.1)
def qcW (w : World) (j : Nat) : Prop := ∃ es clk, w.heap[j]? = some (.map es clk)
section
variable {K V : Type} [DecidableEq K]
theorem _root_.Go.Gm.MapIs.isMap {w : World} {b : Nat} {enc : K -> Value} {encV : V -> Value} {L : List (K × V)} (h : MapIs w b enc encV L) : qcW w b := by
 obtain ⟨es, clk, h, _⟩ := h.at_; exact ⟨es, clk, h⟩
theorem _root_.Go.Gm.MapIs.lt {w : World} {b : Nat} {enc : K -> Value} {encV : V -> Value} {L : List (K × V)} (h : MapIs w b enc encV L) : b < w.heap.size := by
 obtain ⟨es, clk, h, _⟩ := h.at_; exact (Array.getElem?_eq_some_iff.1 h).1
theorem _root_.Go.Gm.MapIs.repr {w : World} {b : Nat} {enc : K -> Value} {encV : V -> Value} {L L' : List (K × V)} (h : MapIs w b enc encV L) (hk : L'.map (·.1) = L.map (·.1)) (hv : L'.map (fun x => (enc x.1, encV x.2)) = L.map fun x => (enc x.1, encV x.2)) : MapIs w b enc encV L' := by
 obtain ⟨⟨es, clk, h1, h2, h3⟩, h4⟩ := h; exact ⟨⟨es, clk, h1, h2.trans hv.symm, h3⟩, by rw [hk]; exact h4⟩
end
theorem qaI {w : World} {b o : Nat} {v : Value} (h : w.cell? ⟨b, o, none⟩ = some v) : b < w.heap.size := by
 unfold World.cell? at h
 cases e : w.heap[b]? with
 | none => simp [e] at h
 | some o => exact (Array.getElem?_eq_some_iff.1 e).1
theorem qda {w : World} {b o : Nat} {v : Value} (h : w.cell? ⟨b, o, none⟩ = some v) : ¬ qcW w b := by
 rintro ⟨es, clk, e⟩; unfold World.cell? at h; simp [e] at h
theorem qaf {w w' : World} {b o : Nat} {v : Value} (h : w.cell? ⟨b, o, none⟩ = some v) (e : w'.heap[b]? = w.heap[b]?) : w'.cell? ⟨b, o, none⟩ = some v := by
 unfold World.cell? at h ⊢; rw [e]; exact h
theorem But.cells {S : Nat -> Prop} {w w' : World} (h : But S w w') (hS : ∀ k, S k -> qcW w k) : qa6 w w' := by
 intro b arr e fz hb; rw [h.block b (Array.getElem?_eq_some_iff.1 hb).1 ?_]
 · exact hb
 · intro hs; obtain ⟨es, clk, hm⟩ := hS b hs; rw [hb] at hm; cases hm
theorem zz2 {w w' : World} (h : Below w.heap.size w w') : qa6 w w' := fun b arr e fz hb => by
 rw [h.block b (Array.getElem?_eq_some_iff.1 hb).1]; exact hb
section
variable {w w' : World} {n b bk ba bd bs bv : Nat} {G : GMap}
theorem OMW.maps (h : OMW w n b bk ba bd bs bv G) : ∀ k, qav bk ba bd bv G k -> qcW w k := by
 intro k hk; unfold qav at hk; simp only [List.mem_cons, List.mem_map] at hk; rcases hk with rfl | rfl | rfl | rfl | ⟨x, hx, rfl⟩
 · exact Go.Gm.MapIs.isMap h.mkp
 · exact Go.Gm.MapIs.isMap h.ma
 · exact Go.Gm.MapIs.isMap h.md
 · exact Go.Gm.MapIs.isMap h.mv
 · exact Go.Gm.MapIs.isMap (h.mi x hx)
theorem OMW.keep (h : OMW w n b bk ba bd bs bv G) (hc : qa6 w w') (hm : ∀ k, qav bk ba bd bv G k -> w'.heap[k]? = w.heap[k]?) : OMW w' n b bk ba bd bs bv G := by
 have cc : ∀ {b o : Nat} {v : Value}, w.cell? ⟨b, o, none⟩ = some v -> w'.cell? ⟨b, o, none⟩ = some v := by
  intro b o v hv; refine qaf hv ?_; unfold World.cell? at hv
  cases e : w.heap[b]? with
  | none => simp [e] at hv
  | some q =>
   cases q with
   | cells arr t fz => exact hc _ _ _ _ e
   | _ => simp [e] at hv
 refine ⟨cc h.c0, cc h.c1, cc h.c2, cc h.c3, cc h.cv, h.mkp.same (hm _ ?_), h.ma.same (hm _ ?_), h.md.same (hm _ ?_), h.mv.same (hm _ ?_), fun x hx => (h.mi x hx).same (hm _ ?_), h.nd, h.low, fun x hx => (h.ev x hx).cells hc⟩
 all_goals (unfold qav; simp)
 exact .inr (.inr (.inr (.inr ⟨x.1, x.2.2, hx⟩)))
theorem OMW.below (h : OMW w n b bk ba bd bs bv G) (hb : Below w.heap.size w w') : OMW w' n b bk ba bd bs bv G :=
 h.keep (zz2 hb) fun k hk => by
  obtain ⟨es, clk, hm⟩ := h.maps k hk; exact hb.block k (Array.getElem?_eq_some_iff.1 hm).1
theorem qhZ {j : Nat} {o : Obj} (hj : qcW w j) : qa6 w (World.setO w j o) := by
 intro b arr e fz hb; obtain ⟨es, clk, hm⟩ := hj; rw [qbP hm, if_neg (fun e => by subst e; rw [hb] at hm; cases hm)]; exact hb
theorem OMW.turn (h : OMW w n b bk ba bd bs bv G) {j : Nat} (hj : qav bk ba bd bv G j) {o : Obj} {G' : GMap}
  (hk : MapIs (World.setO w j o) bk encD qkz G'.kept) (ha : MapIs (World.setO w j o) ba encK qir G'.alive) (hd : MapIs (World.setO w j o) bd encD encJ G'.dead) (hv : MapIs (World.setO w j o) bv encA encJ G'.vec)
  (hi : ∀ x ∈ G'.alive, MapIs (World.setO w j o) x.2.1 encD encJ x.2.2) (hnd : (bk :: ba :: bd :: bv :: G'.alive.map (·.2.1)).Nodup) (hlow : ∀ x ∈ G'.alive, n <= x.2.1) (hev : ∀ x ∈ G'.kept, EvV w x.2.1 x.2.2) : OMW (World.setO w j o) n b bk ba bd bs bv G' := by
 have hc := qhZ (o := o) (h.maps j hj); have cc : ∀ {b o' : Nat} {v : Value}, w.cell? ⟨b, o', none⟩ = some v -> (World.setO w j o).cell? ⟨b, o', none⟩ = some v := by
  intro b o' v hcell; refine qaf hcell ?_; obtain ⟨es, clk, hm⟩ := h.maps j hj; rw [qbP hm, if_neg (fun e : b = j => qda hcell (by rw [e]; exact ⟨es, clk, hm⟩))]
 refine ⟨cc h.c0, cc h.c1, cc h.c2, cc h.c3, cc h.cv, hk, ha, hd, hv, hi, hnd, fun k hk' => ?_, fun x hx => (hev x hx).cells hc⟩; simp only [List.mem_cons, List.mem_map] at hk'; rcases hk' with rfl | rfl | rfl | rfl | rfl | rfl | ⟨x, hx, rfl⟩
 all_goals first | exact hlow x hx | (refine h.low _ ?_; simp)
theorem OMW.ne (h : OMW w n b bk ba bd bs bv G) : bk ≠ ba /\ bk ≠ bd /\ bk ≠ bv /\ ba ≠ bd /\ ba ≠ bv /\ bd ≠ bv := by
 have := h.nd; simp only [List.nodup_cons, List.mem_cons, not_or] at this; exact ⟨this.1.1, this.1.2.1, this.1.2.2.1, this.2.1.1, this.2.1.2.1, this.2.2.1.1⟩
theorem OMW.neI (h : OMW w n b bk ba bd bs bv G) {x : CKey × (Nat × DL)} (hx : x ∈ G.alive) : x.2.1 ≠ bk /\ x.2.1 ≠ ba /\ x.2.1 ≠ bd /\ x.2.1 ≠ bv := by
 have := h.nd; simp only [List.nodup_cons, List.mem_cons, not_or, List.mem_map, not_exists, not_and] at this; exact ⟨this.1.2.2.2 x hx, this.2.1.2.2 x hx, this.2.2.1.2 x hx, this.2.2.2.1 x hx⟩
theorem qaz {j i : Nat} {o : Obj} (h : qcW w j) (hne : i ≠ j) : (World.setO w j o).heap[i]? = w.heap[i]? := by
 obtain ⟨es, clk, hm⟩ := h; rw [qbP hm, if_neg hne]
end
end Go.Proofs
set_option maxHeartbeats 2000000
namespace Go.Proofs
open Go Go.Am Go.RowKit Go.Sy Go.Gm
theorem qxg (w : World) : Calls Tryz.prog 64 #[] w fun e w' => e = .returned (.pointer (some ⟨w.heap.size + 1, 0, none⟩)) /\ w' = (w.alloc (.map #[] 0)).alloc (.cells #[.map (some w.heap.size)] 149) := by
 have hmm := @run_makeMap Tryz.prog; go_enter Tryz.func64, Tryz.ntmps64
 go_wp2; go_ret; exact ⟨by simp, rfl⟩
theorem qcu (w : World) (o : Obj) (i : Nat) : (w.alloc o).heap[i]? = if i = w.heap.size then some o else w.heap[i]? := by
 show (w.heap.push o)[i]? = _
 rw [Array.getElem?_push]
theorem qgw (w : World) (arr : Array Value) (e : TypeId) (fz : Nat × Nat) (i o : Nat) : (w.alloc (.cells arr e fz)).cell? ⟨i, o, none⟩ = if i = w.heap.size then arr[o]? else w.cell? ⟨i, o, none⟩ := by
 unfold World.cell?
 simp only [qcu]; by_cases h : i = w.heap.size
 · simp [h]
 · simp [h]
theorem qbV {K V : Type} [DecidableEq K] {w : World} {b : Nat} {enc : K -> Value} {encV : V -> Value} (h : w.heap[b]? = some (.map #[] 0)) : MapIs w b enc encV ([] : List (K × V)) :=
 ⟨⟨#[], 0, h, by simp [Rep], by simp, by simp⟩, by simp⟩
theorem qvD (w : World) : Calls Tryz.prog 14 #[] w fun e w' => ∃ b bk ba bd bs bv, e = .returned (.pointer (some ⟨b, 0, none⟩)) /\ OMW w' w.heap.size b bk ba bd bs bv ⟨[], [], [], []⟩ /\ Below w.heap.size w w' := by
 have hmm := @run_makeMap Tryz.prog; go_enter Tryz.func14, Tryz.ntmps14
 go_wp2_with (go_at_call 64; refine (qxg _).mono ?_; rintro e w1 ⟨rfl, rfl⟩)
 go_ret; refine ⟨w.heap.size + 5, w.heap.size, w.heap.size + 1, w.heap.size + 2, w.heap.size + 4, w.heap.size + 3, rfl, ?_, ?_⟩
 · refine ⟨by simp [qgw], by simp [qgw], by simp [qgw], by simp [qgw], by simp [qgw], qbV (by simp only [qcu, World.size_alloc]; repeat (first | rfl | rw [if_neg (by omega)]); try simp; try omega), qbV (by simp only [qcu, World.size_alloc]; repeat (first | rfl | rw [if_neg (by omega)]); try simp; try omega), qbV (by simp only [qcu, World.size_alloc]; repeat (first | rfl | rw [if_neg (by omega)]); try simp; try omega), qbV (by simp only [qcu, World.size_alloc]; repeat (first | rfl | rw [if_neg (by omega)]); try simp; try omega), fun x hx => (by cases hx), by simp, by simp, fun x hx => (by cases hx)⟩
 · refine Below.alloc (Below.alloc (Below.alloc (Below.alloc (Below.alloc (Below.alloc (Below.refl _ _) ?_ _) ?_ _) ?_ _) ?_ _) ?_ _) ?_ _
   all_goals (simp; try omega)
theorem Tryz.room {w : World} {n b bk ba bd bs bv : Nat} {G : GMap} (h : OMW w n b bk ba bd bs bv G) (hl : G.kept.length <= 100000) : Calls Tryz.prog 68 #[.pointer (some ⟨b, 0, none⟩), .int .i64 1] w fun e w' => e = .returned (.bool (decide (1 <= 2048 - (G.kept.length : Int)))) /\ w' = w := by
 obtain ⟨es, clk, hb, hsz⟩ := h.mkp.len; have c0 := h.c0; have hlen : (Builtin.len_ #[99] 3 #[.map (some bk)]).run Tryz.prog w = .ok (.int .i64 G.kept.length) w := by
  rw [run_len_map w 99 3 bk es clk (by simp [Program.mapKeyOf, Program.mapElemOf, Tryz.underlying99]) hb, hsz]; rfl
 have hwr : wrap64 (2048 - (G.kept.length : Int)) = 2048 - (G.kept.length : Int) := by
  exact IntWalk.wrap64_in _ (by omega)
 clear h hb; go_enter Tryz.func68, Tryz.ntmps68
 go_wp2; go_ret; exact ⟨rfl, rfl⟩
theorem qwR {w : World} {bd : Nat} {L : DL} (hm : MapIs w bd encD encJ L) (d : CDot) : (Instr.lookup 101 (.map (some bd)) (encD d) true).run Tryz.prog w = .ok (.tuple #[.int .i64 ((getL L d).getD 0), .bool (getL L d).isSome]) w := by
 rw [hm.lookup zz11 Tryz.underlying101 (qpi w) d true]
 cases getL L d <;> rfl
theorem Tryz.dead {w : World} {n b bk ba bd bs bv : Nat} {G : GMap} (h : OMW w n b bk ba bd bs bv G) (d : CDot) : Calls Tryz.prog 71 #[.pointer (some ⟨b, 0, none⟩), encD d] w fun e w' => e = .returned (.bool (getL G.dead d).isSome) /\ Below w.heap.size w w' := by
 have hb : Below w.heap.size w (w.alloc (.cells #[.int .i64 d.dev, .int .i64 d.inc, .int .i64 d.seq] 35)).drew := ((Below.refl w.heap.size w).alloc (Nat.le_refl _) _).drew; have h1 := h.below hb; have hlk := qwR h1.md d; have c2 := h1.c2; unfold encD at hlk ⊢; clear h h1; go_enter Tryz.func71, Tryz.ntmps71
 go_wp2_with fail
 go_region
 go_wp2; go_ret; exact ⟨rfl, hb⟩
end Go.Proofs
namespace Go.Proofs
open Go Go.Am Go.RowKit Go.Sy Go.Gm
section
variable {K V : Type} [DecidableEq K]
theorem qiD {A : List (K × V)} {k : K} {v : V} {x : K × V} (h : x ∈ qaq A k v) : x = (k, v) \/ (x ∈ A /\ x.1 ≠ k) := by
 unfold qaq at h; split at h
 · obtain ⟨y, hy, he⟩ := List.mem_map.1 h; split at he
   · exact .inl he.symm
   · rename_i hne; subst he; exact .inr ⟨hy, fun e => hne e.symm⟩
 · rename_i hk; rcases List.mem_append.1 h with h | h
   · exact .inr ⟨h, fun e => hk (List.mem_map.2 ⟨x, h, e⟩)⟩
   · exact .inl (List.mem_singleton.1 h)
theorem qgQ {β : Type} {A : List (K × V)} {k : K} {u v : V} {f : K × V -> β} (hn : (A.map (·.1)).Nodup) (h : getL A k = some u) (hf : f (k, v) = f (k, u)) : (qaq A k v).map f = A.map f := by
 have hm := qbx h; unfold qaq; rw [if_pos (List.mem_map.2 ⟨_, hm, rfl⟩), List.map_map]; refine List.map_congr_left fun x hx => ?_
 simp only [Function.comp]; split
 · rename_i e; obtain ⟨a, b⟩ := x; simp only at e; subst e; rw [qkO hn hx hm]; exact hf
 · rfl
theorem qgR {β : Type} {A : List (K × V)} {k : K} {v : V} {f : K × V -> β} (h : getL A k = none) : (qaq A k v).map f = A.map f ++ [f (k, v)] := by
 unfold qaq; rw [if_neg (getL_none.1 h), List.map_append]; rfl
theorem qs8 (A : List (K × V)) (k : K) (u v : V) : qaq (qaq A k u) k v = qaq A k v := by
 by_cases h : k ∈ A.map (·.1)
 · have h1 : qaq A k u = A.map (fun x => if k = x.1 then (k, u) else x) := if_pos h; have h2 : qaq A k v = A.map (fun x => if k = x.1 then (k, v) else x) := if_pos h; have h3 : k ∈ (qaq A k u).map (·.1) := by rw [ql4, qaR]; simp
   have h4 : qaq (qaq A k u) k v = (qaq A k u).map (fun x => if k = x.1 then (k, v) else x) := if_pos h3; rw [h4, h1, h2, List.map_map]; refine List.map_congr_left fun x _ => ?_
   simp only [Function.comp]; by_cases e : k = x.1 <;> simp [e]
 · have h1 : qaq A k u = A ++ [(k, u)] := if_neg h; have h2 : qaq A k v = A ++ [(k, v)] := if_neg h; have h3 : k ∈ (qaq A k u).map (·.1) := by rw [ql4, qaR]; simp
   have h4 : qaq (qaq A k u) k v = (qaq A k u).map (fun x => if k = x.1 then (k, v) else x) := if_pos h3; rw [h4, h1, h2, List.map_append]; congr 1
   · conv => rhs; rw [<- List.map_id A]
     refine List.map_congr_left fun x hx => ?_
     rw [if_neg (fun e => h (List.mem_map.2 ⟨x, hx, e.symm⟩))]; rfl
   · simp
end
theorem But.more {S T : Nat -> Prop} {a b c : World} (h : But S a b) (k : But T b c) (hT : ∀ i, i < a.heap.size -> T i -> S i) : But S a c :=
 ⟨k.os.trans h.os, k.tape.trans h.tape, k.output.trans h.output, Nat.le_trans h.size k.size, fun i hi hS => (k.block i (Nat.lt_of_lt_of_le hi h.size) fun ht => hS (hT i hi ht)).trans (h.block i hi hS)⟩
section
variable {w w' : World} {n b bk ba bd bs bv : Nat} {G : GMap}
theorem OMW.setInner (h : OMW w n b bk ba bd bs bv G) {k : CKey} {j : Nat} {L L' : DL} (hj : getL G.alive k = some (j, L)) {o : Obj} (hm : MapIs (World.setO w j o) j encD encJ L') : OMW (World.setO w j o) n b bk ba bd bs bv { G with alive := qaq G.alive k (j, L') } := by
 have hjm := qbx hj; have hmap := MapIs.isMap (h.mi _ hjm); obtain ⟨n1, n2, n3, n4⟩ := h.neI hjm; have hblk : (qaq G.alive k (j, L')).map (·.2.1) = G.alive.map (·.2.1) := qgQ h.ma.nd hj rfl; refine h.turn (j := j) (by unfold qav; simp only [List.mem_cons, List.mem_map]; exact .inr (.inr (.inr (.inr ⟨_, hjm, rfl⟩)))) (h.mkp.same (qaz hmap n1.symm)) ((h.ma.same (qaz hmap n2.symm)).repr (qgQ h.ma.nd hj rfl) (qgQ h.ma.nd hj rfl)) (h.md.same (qaz hmap n3.symm)) (h.mv.same (qaz hmap n4.symm)) (fun x hx => ?_) ?_ (fun x hx => ?_) h.ev
 · rcases qiD hx with rfl | ⟨hx, hk⟩
   · exact hm
   · refine (h.mi x hx).same (qaz hmap fun e => ?_); have hnd := h.nd; simp only [List.nodup_cons] at hnd; have hnd := hnd.2.2.2.2; have : ∀ {A : List (CKey × (Nat × DL))}, (A.map (·.2.1)).Nodup -> x ∈ A -> (k, (j, L)) ∈ A -> x = (k, (j, L)) := by
      intro A; induction A with
      | nil => intro _ h; cases h
      | cons y A ih =>
       intro hn h1 h2; rw [List.map_cons, List.nodup_cons] at hn; rcases List.mem_cons.1 h1 with h1 | h1 <;> rcases List.mem_cons.1 h2 with h2 | h2
       · rw [h1, h2]
       · exact absurd (List.mem_map.2 ⟨_, h2, by rw [<- h1]; exact e.symm⟩) hn.1
       · exact absurd (List.mem_map.2 ⟨_, h1, by rw [<- h2]; exact e⟩) hn.1
       · exact ih hn.2 h1 h2
     have := this hnd hx hjm; rw [this] at hk; exact hk rfl
 · show (bk :: ba :: bd :: bv :: (qaq G.alive k (j, L')).map (·.2.1)).Nodup
   rw [hblk]; exact h.nd
 · have : x.2.1 ∈ (qaq G.alive k (j, L')).map (·.2.1) := List.mem_map.2 ⟨x, hx, rfl⟩; rw [hblk] at this; refine h.low _ ?_; simp only [List.mem_cons]; exact .inr (.inr (.inr (.inr (.inr (.inr this)))))
theorem OMW.setAliveNew (h : OMW w n b bk ba bd bs bv G) {k : CKey} {j : Nat} (hn : getL G.alive k = none) {o : Obj} (hj : MapIs w j encD encJ ([] : DL)) (hjn : ¬ qav bk ba bd bv G j) (hlow : n <= j) (hm : MapIs (World.setO w ba o) ba encK qir (qaq G.alive k (j, []))) :
   OMW (World.setO w ba o) n b bk ba bd bs bv { G with alive := qaq G.alive k (j, []) } := by
 have hmap := MapIs.isMap h.ma; obtain ⟨n1, n2, n3, n4, n5, n6⟩ := h.ne; have hblk : (qaq G.alive k (j, [])).map (·.2.1) = G.alive.map (·.2.1) ++ [j] := qgR hn; unfold qav at hjn; simp only [List.mem_cons, not_or] at hjn; refine h.turn (j := ba) (by unfold qav; simp) (h.mkp.same (qaz hmap n1)) hm (h.md.same (qaz hmap n4.symm)) (h.mv.same (qaz hmap n5.symm)) (fun x hx => ?_) ?_ (fun x hx => ?_) h.ev
 · rcases qiD hx with rfl | ⟨hx, hk⟩
   · exact hj.same (qaz hmap hjn.2.1)
   · exact (h.mi x hx).same (qaz hmap (h.neI hx).2.1)
 · show (bk :: ba :: bd :: bv :: (qaq G.alive k (j, [])).map (·.2.1)).Nodup
   rw [hblk]; have h1 : (bk :: ba :: bd :: bv :: (G.alive.map (·.2.1) ++ [j])) = (bk :: ba :: bd :: bv :: G.alive.map (·.2.1)) ++ [j] := by simp
   rw [h1, List.nodup_append]; refine ⟨h.nd, by simp, fun a ha c hc => ?_⟩; rw [List.mem_singleton] at hc; subst hc; rintro rfl; simp only [List.mem_cons] at ha; rcases ha with ha | ha | ha | ha | ha
   · exact hjn.1 ha
   · exact hjn.2.1 ha
   · exact hjn.2.2.1 ha
   · exact hjn.2.2.2.1 ha
   · exact hjn.2.2.2.2 ha
 · rcases qiD hx with rfl | ⟨hx, hk⟩
   · exact hlow
   · refine h.low _ ?_; simp only [List.mem_cons]; exact .inr (.inr (.inr (.inr (.inr (.inr (List.mem_map.2 ⟨x, hx, rfl⟩))))))
theorem OMW.setDead (h : OMW w n b bk ba bd bs bv G) {D : DL} {o : Obj} (hm : MapIs (World.setO w bd o) bd encD encJ D) : OMW (World.setO w bd o) n b bk ba bd bs bv { G with dead := D } := by
 have hmap := MapIs.isMap h.md; obtain ⟨n1, n2, n3, n4, n5, n6⟩ := h.ne; exact h.turn (j := bd) (by unfold qav; simp) (h.mkp.same (qaz hmap n2)) (h.ma.same (qaz hmap n4)) hm (h.mv.same (qaz hmap n6.symm)) (fun x hx => (h.mi x hx).same (qaz hmap (h.neI hx).2.2.1)) h.nd (fun x hx => h.low _ (by simp only [List.mem_cons]; exact .inr (.inr (.inr (.inr (.inr (.inr (List.mem_map.2 ⟨x, hx, rfl⟩)))))))) h.ev
theorem OMW.setKept (h : OMW w n b bk ba bd bs bv G) {d : CDot} {x : Value × CEvent} {o : Obj} (hx : EvV w x.1 x.2) (hm : MapIs (World.setO w bk o) bk encD qkz (qaq G.kept d x)) : OMW (World.setO w bk o) n b bk ba bd bs bv { G with kept := qaq G.kept d x } := by
 have hmap := MapIs.isMap h.mkp; obtain ⟨n1, n2, n3, n4, n5, n6⟩ := h.ne; refine h.turn (j := bk) (by unfold qav; simp) hm (h.ma.same (qaz hmap n1.symm)) (h.md.same (qaz hmap n2.symm)) (h.mv.same (qaz hmap n3.symm)) (fun x hx => (h.mi x hx).same (qaz hmap (h.neI hx).1)) h.nd (fun x hx => h.low _ (by simp only [List.mem_cons]; exact .inr (.inr (.inr (.inr (.inr (.inr (List.mem_map.2 ⟨x, hx, rfl⟩)))))))) (fun y hy => ?_); rcases qiD hy with rfl | ⟨hy, _⟩
 · exact hx
 · exact h.ev y hy
theorem OMW.delAlive (h : OMW w n b bk ba bd bs bv G) {k : CKey} {o : Obj} (hm : MapIs (World.setO w ba o) ba encK qir (delL G.alive k)) : OMW (World.setO w ba o) n b bk ba bd bs bv { G with alive := delL G.alive k } := by
 have hmap := MapIs.isMap h.ma; obtain ⟨n1, n2, n3, n4, n5, n6⟩ := h.ne; have hsub : ∀ x ∈ delL G.alive k, x ∈ G.alive := fun x hx => (List.mem_filter.1 hx).1
 refine h.turn (j := ba) (by unfold qav; simp) (h.mkp.same (qaz hmap n1)) hm (h.md.same (qaz hmap n4.symm)) (h.mv.same (qaz hmap n5.symm)) (fun x hx => (h.mi x (hsub x hx)).same (qaz hmap (h.neI (hsub x hx)).2.1)) ?_ (fun x hx => h.low _ (by simp only [List.mem_cons]; exact .inr (.inr (.inr (.inr (.inr (.inr (List.mem_map.2 ⟨x, hsub x hx, rfl⟩)))))))) h.ev; refine List.Sublist.nodup ?_ h.nd; exact ((((List.filter_sublist.map _).cons₂ _).cons₂ _).cons₂ _).cons₂ _
end
theorem zz12 {w : World} {ba : Nat} {A : List (CKey × (Nat × DL))} (hm : MapIs w ba encK qir A) (k : CKey) : (Instr.lookup 100 (.map (some ba)) (encK k) false).run Tryz.prog w = .ok (.map ((getL A k).map (·.1))) w := by
 rw [hm.lookup qri Tryz.underlying100 (z := .map none) (by kernel_rfl) k false]
 cases getL A k <;> rfl
theorem qcq {w : World} {j b o : Nat} {x : Obj} {v : Value} (hj : qcW w j) (h : w.cell? ⟨b, o, none⟩ = some v) : (World.setO w j x).cell? ⟨b, o, none⟩ = some v :=
 qaf h (qaz hj fun e => qda h (by rw [e]; exact hj))
theorem qgF (e : CEvent) (v : Value) : qci e v = .agg #[.int .i64 e.dot.dev, .int .i64 e.dot.inc, .int .i64 e.dot.seq, .int .i64 e.stamp.wall, .int .i64 e.stamp.count, .int .i64 e.stamp.dev, .int .i64 e.kind, encS e.key.name, encS e.key.domain, encS e.key.path,
 encS e.cookie.value, .bool e.cookie.hostOnly, .bool e.cookie.secure, .bool e.cookie.httpOnly, .bool e.cookie.persistent, .int .i64 e.cookie.expiry, .int .i64 e.cookie.creation, .int .i64 e.cookie.access, v] := rfl
theorem qv5 (b : Nat) (w : World) : (binOp BinOp.eql 101 (.map (some b)) (.map none)).run Tryz.prog w = .ok (.bool false) w := by kernel_rfl
theorem qwa {w : World} {n b bk ba bd bs bv : Nat} {G : GMap} (h : OMW w n b bk ba bd bs bv G) (e : CEvent) (v : Value) {j : Nat} {L : DL} (hj : getL G.alive e.key = some (j, L)) :
   Calls Tryz.prog 72 #[.pointer (some ⟨b, 0, none⟩), qci e v] w fun e' w' => e' = .returned (.tuple #[]) /\ But (qav bk ba bd bv G) w w' /\ OMW w' n b bk ba bd bs bv { G with alive := qaq G.alive e.key (j, qaq L e.dot 1) } := by
 rw [qgF]; obtain ⟨W, hW⟩ : ∃ W, (w.alloc (.cells #[.int .i64 e.dot.dev, .int .i64 e.dot.inc, .int .i64 e.dot.seq, .int .i64 e.stamp.wall, .int .i64 e.stamp.count, .int .i64 e.stamp.dev, .int .i64 e.kind, encS e.key.name, encS e.key.domain, encS e.key.path,
   encS e.cookie.value, .bool e.cookie.hostOnly, .bool e.cookie.secure, .bool e.cookie.httpOnly, .bool e.cookie.persistent, .int .i64 e.cookie.expiry, .int .i64 e.cookie.creation, .int .i64 e.cookie.access, v] 42)) = W := ⟨_, rfl⟩
 have hb : Below w.heap.size w W := by rw [<- hW]; exact (Below.refl w.heap.size w).alloc (Nat.le_refl _) _
 have h0 := h.below hb; go_enter Tryz.func72, Tryz.ntmps72
 go_wp2_with fail
 have k7 : W.cell? ⟨w.heap.size, 7, none⟩ = some (encS e.key.name) := by rw [<- hW]; simp
 have k8 : W.cell? ⟨w.heap.size, 8, none⟩ = some (encS e.key.domain) := by rw [<- hW]; simp
 have k9 : W.cell? ⟨w.heap.size, 9, none⟩ = some (encS e.key.path) := by rw [<- hW]; simp
 have d0 : W.cell? ⟨w.heap.size, 0, none⟩ = some (.int .i64 e.dot.dev) := by rw [<- hW]; simp
 have d1 : W.cell? ⟨w.heap.size, 1, none⟩ = some (.int .i64 e.dot.inc) := by rw [<- hW]; simp
 have d2 : W.cell? ⟨w.heap.size, 2, none⟩ = some (.int .i64 e.dot.seq) := by rw [<- hW]; simp
 have h1 := h0.below (Below.refl W.heap.size W).drew; have c1 := h0.c1; have hlk := zz12 h1.ma e.key; rw [hj] at hlk; have hjm : (e.key, (j, L)) ∈ G.alive := qbx hj; have h2 := h1.below (Below.refl W.drew.heap.size W.drew).drew; obtain ⟨es, clk, hu, hmu⟩ := (h2.mi _ hjm).update zz11 Tryz.underlying101 e.dot 1; have hlk2 := zz12 h2.ma e.key; rw [hj] at hlk2; have hnil := fun w => qv5 j w
 rw [show encK e.key = .agg #[encS e.key.name, encS e.key.domain, encS e.key.path] from rfl] at hlk hlk2; unfold encD encJ at hu; clear h0 h hW; go_region
 go_wp2_with fail
 go_region
 go_wp2; go_end0
 refine ⟨rfl, ?_, h2.setInner hj hmu⟩; refine (zz7 (hb.drew.drew)).more (T := (· = j)) ⟨rfl, rfl, rfl, by simp [World.setO], fun k _ hk => ?_⟩ ?_
 · exact qaz (MapIs.isMap (h2.mi _ hjm)) hk
 · rintro i _ rfl; unfold qav; simp only [List.mem_cons, List.mem_map]; exact .inr (.inr (.inr (.inr ⟨_, hjm, rfl⟩)))
theorem qv9 {w : World} {n b bk ba bd bs bv : Nat} {G : GMap} (h : OMW w n b bk ba bd bs bv G) (hn : n <= w.heap.size) (e : CEvent) (v : Value) (hj : getL G.alive e.key = none) :
  Calls Tryz.prog 72 #[.pointer (some ⟨b, 0, none⟩), qci e v] w fun e' w' => e' = .returned (.tuple #[]) /\ But (qav bk ba bd bv G) w w' /\ ∃ j, w.heap.size <= j /\ OMW w' n b bk ba bd bs bv { G with alive := qaq G.alive e.key (j, [(e.dot, 1)]) } := by
 rw [qgF]; obtain ⟨W, hW⟩ : ∃ W, (w.alloc (.cells #[.int .i64 e.dot.dev, .int .i64 e.dot.inc, .int .i64 e.dot.seq, .int .i64 e.stamp.wall, .int .i64 e.stamp.count, .int .i64 e.stamp.dev, .int .i64 e.kind, encS e.key.name, encS e.key.domain, encS e.key.path,
  encS e.cookie.value, .bool e.cookie.hostOnly, .bool e.cookie.secure, .bool e.cookie.httpOnly, .bool e.cookie.persistent, .int .i64 e.cookie.expiry, .int .i64 e.cookie.creation, .int .i64 e.cookie.access, v] 42)) = W := ⟨_, rfl⟩
 have hb : Below w.heap.size w W := by rw [<- hW]; exact (Below.refl w.heap.size w).alloc (Nat.le_refl _) _
 have h0 := h.below hb; have hmm := @run_makeMap Tryz.prog; go_enter Tryz.func72, Tryz.ntmps72
 go_wp2_with fail
 have k7 : W.cell? ⟨w.heap.size, 7, none⟩ = some (encS e.key.name) := by rw [<- hW]; simp
 have k8 : W.cell? ⟨w.heap.size, 8, none⟩ = some (encS e.key.domain) := by rw [<- hW]; simp
 have k9 : W.cell? ⟨w.heap.size, 9, none⟩ = some (encS e.key.path) := by rw [<- hW]; simp
 have d0 : W.cell? ⟨w.heap.size, 0, none⟩ = some (.int .i64 e.dot.dev) := by rw [<- hW]; simp
 have d1 : W.cell? ⟨w.heap.size, 1, none⟩ = some (.int .i64 e.dot.inc) := by rw [<- hW]; simp
 have d2 : W.cell? ⟨w.heap.size, 2, none⟩ = some (.int .i64 e.dot.seq) := by rw [<- hW]; simp
 have hsz : W.heap.size = w.heap.size + 1 := by rw [<- hW]; simp
 have h1 := h0.below (Below.refl W.heap.size W).drew; have c1 := h0.c1; have hlk := zz12 h1.ma e.key; rw [hj] at hlk; have hnew : Below W.heap.size W (W.alloc (.map #[] 0)).drew.drew := ((Below.refl W.heap.size W).alloc (Nat.le_refl _) _).drew.drew; have h2 := h0.below hnew; have hjn : ¬ qav bk ba bd bv G W.heap.size := fun hm => by
  obtain ⟨es, clk, hx⟩ := h0.maps _ hm; have := (Array.getElem?_eq_some_iff.1 hx).1; omega
 have hfr : MapIs (W.alloc (.map #[] 0)).drew.drew W.heap.size encD encJ ([] : DL) := qbV (by show (W.alloc (.map #[] 0)).heap[W.heap.size]? = _; rw [qcu]; simp); obtain ⟨es, clk, hu, hmu⟩ := h2.ma.update qri Tryz.underlying100 e.key ((W.heap.size, []) : Nat × DL); have h3 := h2.setAliveNew hj hfr hjn (by omega) hmu; have up : ∀ {o : Nat} {x : Value}, W.cell? ⟨w.heap.size, o, none⟩ = some x -> (W.alloc (.map #[] 0)).cell? ⟨w.heap.size, o, none⟩ = some x := fun hx => (((Below.refl W.heap.size W).alloc (Nat.le_refl _) _).cell (by rw [hsz]; exact Nat.lt_succ_self _)).trans hx
 have k7' := up k7; have k8' := up k8; have k9' := up k9; have d0' := up d0; have d1' := up d1; have d2' := up d2; have c1' : (W.alloc (.map #[] 0)).cell? ⟨b, 1, none⟩ = some (.map (some ba)) := h2.c1; rw [hsz] at hu; clear up h0 h hW; rw [show encK e.key = .agg #[encS e.key.name, encS e.key.domain, encS e.key.path] from rfl] at hlk hu; rw [show qir (w.heap.size + 1, []) = .map (some (w.heap.size + 1)) from rfl] at hu; have hnil : ∀ w, (binOp BinOp.eql 101 (.map none) (.map none)).run Tryz.prog w = .ok (.bool true) w := fun w => by kernel_rfl
 go_region
 go_wp2_with fail
 have hmb : qcW (W.alloc (.map #[] 0)).drew.drew ba := MapIs.isMap h2.ma; obtain ⟨W3, hW3⟩ : ∃ W3, World.setO (W.alloc (.map #[] 0)).drew.drew ba (.map es clk) = W3 := ⟨_, rfl⟩; have up3 : ∀ {o : Nat} {x : Value}, (W.alloc (.map #[] 0)).cell? ⟨w.heap.size, o, none⟩ = some x -> W3.cell? ⟨w.heap.size, o, none⟩ = some x := fun hx => by rw [<- hW3]; exact qcq hmb hx
 have k7'' := up3 k7'; have k8'' := up3 k8'; have k9'' := up3 k9'; have d0'' := up3 d0'; have d1'' := up3 d1'; have d2'' := up3 d2'; have hbut : But (qav bk ba bd bv G) w W3 := by
  refine (zz7 (hb.trans (hnew.mono hb.size))).more (T := (· = ba)) ⟨by rw [<- hW3]; rfl, by rw [<- hW3]; rfl, by rw [<- hW3]; rfl, by rw [<- hW3]; simp [World.setO], fun k _ hk => by rw [<- hW3]; exact qaz hmb hk⟩ ?_; rintro i _ rfl; unfold qav; simp
 rw [hW3] at h3 hu; have c1'' := h3.c1; have h4 := h3.below (Below.refl W3.heap.size W3).drew; have hget : getL (qaq G.alive e.key (W.heap.size, [])) e.key = some (W.heap.size, []) := by rw [qaR]; simp
 have hlk3 := zz12 h4.ma e.key; rw [hget, show encK e.key = .agg #[encS e.key.name, encS e.key.domain, encS e.key.path] from rfl] at hlk3; obtain ⟨es2, clk2, hu2, hmu2⟩ := (h4.mi _ (qbx hget)).update zz11 Tryz.underlying101 e.dot 1; rw [show encD e.dot = .agg #[.int .i64 e.dot.dev, .int .i64 e.dot.inc, .int .i64 e.dot.seq] from rfl, show encJ 1 = .int .i64 1 from rfl] at hu2; have hj2 : qcW W3 W.heap.size := MapIs.isMap (h3.mi _ (qbx hget)); have h5 := h4.setInner hget hmu2; rw [qs8] at h5; simp only [hsz, Option.map_some] at hlk3 hu2; clear h1 h2 h3 h4 hfr hmu hmu2 hget hmb; go_region
 go_wp2_with fail
 go_region
 go_wp2; go_end0
 rw [hsz] at h5 hj2; refine ⟨rfl, hbut.more (T := (· = w.heap.size + 1)) ⟨rfl, rfl, rfl, by simp [World.setO], fun k _ hk => qaz (w := W3.drew) hj2 hk⟩ (fun i hi e => by subst e; omega), _, Nat.le_succ _, h5⟩
end Go.Proofs
namespace Go.Gm
open Go Go.RowKit Go.Maps Go.Proofs Go.ChangeMaps
variable {P : Program} {K V : Type} [DecidableEq K]
structure IterIs (w : World) (r b : Nat) (enc : K -> Value) (encV : V -> Value) (L ss left : List (K × V)) : Prop where
 ex : ∃ es clk seen, w.heap[b]? = some (.map es clk) /\ Rep enc encV es.toList L /\ (es.toList.map (·.born)).Pairwise (· < ·) /\ (∀ e ∈ es.toList, e.born < clk) /\ w.heap[r]? = some (.mapIter (some b) clk seen clk) /\ Rep enc encV (leftOf es seen).toList left
 perm : (ss ++ left).Perm L
theorem qgY : ∀ {l : List Nat}, l.Pairwise (· < ·) -> l.Nodup := fun h => h.imp fun h => Nat.ne_of_lt h
theorem MapIs.range {w : World} {b : Nat} {enc : K -> Value} {encV : V -> Value} {L : List (K × V)} (h : MapIs w b enc encV L) {t T Te : TypeId} (ht : P.underlying t = some (.map T Te)) :
  ∃ w', (Instr.range t (.map (some b))).run P w = .ok (.pointer (some ⟨w.heap.size, 0, none⟩)) w' /\ IterIs w' w.heap.size b enc encV L [] L /\ Below w.heap.size w w' /\ w'.heap.size = w.heap.size + 1 := by
 obtain ⟨⟨es, clk, hb, hr, hs, hc⟩, _⟩ := h; have hlt := (Array.getElem?_eq_some_iff.1 hb).1; refine ⟨_, run_range_map w t T Te b es clk ht hb, ⟨⟨es, clk, #[], (Below.heap_alloc w _ b hlt).trans hb, hr, hs, hc, by rw [qcu, if_pos rfl], ?_⟩, by simp⟩, (Below.refl _ w).alloc (Nat.le_refl _) _, by simp⟩; have : leftOf es #[] = es := by simp [leftOf]
 rw [this]; exact hr
theorem qoR {enc : K -> Value} {encV : V -> Value} : ∀ {es : List MapEntry} {L : List (K × V)}, Rep enc encV es L -> ∀ e ∈ es, ∃ M1 x M2 es1 es2, L = M1 ++ x :: M2 /\ es = es1 ++ e :: es2 /\ Rep enc encV es1 M1 /\ Rep enc encV es2 M2 /\ e.key = enc x.1 /\ e.val = encV x.2
 | [], _, _, e, h => by cases h
 | a :: es, [], h, _, _ => by simp [Rep] at h
 | a :: es, y :: L, h, e, he => by
  simp only [Rep, List.map_cons, List.cons.injEq, Prod.mk.injEq] at h; rcases List.mem_cons.1 he with rfl | he
  · exact ⟨[], y, L, [], es, rfl, rfl, rfl, h.2, h.1.1, h.1.2⟩
  · obtain ⟨M1, x, M2, es1, es2, h1, h2, h3, h4, h5⟩ := qoR (h.2 : Rep enc encV es L) e he; refine ⟨y :: M1, x, M2, a :: es1, es2, by rw [h1]; rfl, by rw [h2]; rfl, ?_, h4, h5⟩; simp only [Rep, List.map_cons, List.cons.injEq, Prod.mk.injEq]; exact ⟨h.1, h3⟩
theorem IterIs.next {w : World} {r b : Nat} {enc : K -> Value} {encV : V -> Value} {L ss left : List (K × V)} (h : IterIs w r b enc encV L ss left) (ty : TypeId) :
   (left = [] /\ ss.Perm L /\ (Instr.next (.pointer (some ⟨r, 0, none⟩)) false ty).run P w = .ok (.tuple #[.bool false]) w) \/
   ∃ x left' w', (Instr.next (.pointer (some ⟨r, 0, none⟩)) false ty).run P w = .ok (.tuple #[.bool true, enc x.1, encV x.2]) w' /\ IterIs w' r b enc encV L (ss ++ [x]) left' /\ left.length = left'.length + 1 /\ But (· = r) w w' /\ w'.heap.size = w.heap.size /\
     (Instr.entry (.pointer (some ⟨r, 0, none⟩))).run P w' = .ok (.tuple #[enc x.1, encV x.2]) w' := by
 obtain ⟨⟨es, clk, seen, hb, hr, hs, hc, hi, hl⟩, hp⟩ := h; have hnd := qgY hs; rcases run_next_at (P := P) w ty r b clk clk seen es clk hi hb hc (Nat.le_refl _) with ⟨h0, hrun⟩ | ⟨e, he, w1, hw1, hrun⟩
 · have : left = [] := by
     have := congrArg List.length hl; simp only [List.length_map, Array.length_toList, h0] at this; exact List.length_eq_zero_iff.1 this.symm
   subst this; exact .inl ⟨rfl, by simpa using hp, hrun⟩
 · obtain ⟨M1, x, M2, es1, es2, h1, h2, h3, h4, h5, h6⟩ := qoR hl e he; have hi1 : w1.heap[r]? = some (.mapIter (some b) clk seen clk) := by rcases hw1 with rfl | rfl <;> exact hi
   have hb1 : w1.heap[b]? = some (.map es clk) := by rcases hw1 with rfl | rfl <;> exact hb
   have hrlt := (Array.getElem?_eq_some_iff.1 hi1).1; have hne : b ≠ r := fun hh => by rw [hh] at hb; rw [hb] at hi; cases hi
   have hget : ∀ k, (setBlock w1 r (.mapIter (some b) clk (seen.push e.born) clk)).heap[k]? = if k = r then some (.mapIter (some b) clk (seen.push e.born) clk) else w1.heap[k]? := fun k => by
     simp only [setBlock, Array.getElem?_setIfInBounds]; by_cases hk : r = k
     · subst hk; simp [hrlt]
     · rw [if_neg hk, if_neg (Ne.symm hk)]
   have hem : e ∈ es.toList := by
     have := he; unfold leftOf at this; simp only [Array.toList_filter, List.mem_filter] at this; exact this.1
   refine .inr ⟨x, M1 ++ M2, _, by rw [<- h5, <- h6]; exact hrun, ⟨⟨es, clk, seen.push e.born, by rw [hget, if_neg hne]; exact hb1, hr, hs, hc, by rw [hget, if_pos rfl], ?_⟩, ?_⟩, by rw [h1]; simp; omega, ⟨?_, ?_, ?_, ?_, fun k _ hk => ?_⟩, ?_, by rw [<- h5, <- h6]; exact run_entry_at _ r b clk seen es clk e (by rw [hget, if_pos rfl]) (by rw [hget, if_neg hne]; exact hb1) hem hnd⟩
   · have hsub : ((leftOf es seen).toList.map (·.born)).Nodup := by
       unfold leftOf; rw [Array.toList_filter]; exact hnd.sublist (List.filter_sublist.map _)
     have hcut : (leftOf es (seen.push e.born)).toList = (leftOf es seen).toList.filter fun y => !(y.born == e.born) := by
       unfold leftOf; rw [Array.toList_filter, Array.toList_filter, List.filter_filter]; congr 1
       funext y
       rw [Array.contains_push]; by_cases hh : y.born = e.born
       · simp [hh]
       · have h2 : (y.born == e.born) = false := by simpa using hh
         have h3 : (e.born == y.born) = false := by simpa using fun e => hh e.symm
         simp only [h2, h3]
         cases seen.contains y.born <;> rfl
     rw [hcut, h2]; rw [h2, List.map_append, List.map_cons, List.nodup_append] at hsub; obtain ⟨n1, n2, n3⟩ := hsub; rw [List.nodup_cons] at n2; have f1 : es1.filter (fun y => !(y.born == e.born)) = es1 := by
       rw [List.filter_eq_self]; intro y hy; have := n3 y.born (List.mem_map.2 ⟨y, hy, rfl⟩) e.born List.mem_cons_self; simpa using this
     have f2 : es2.filter (fun y => !(y.born == e.born)) = es2 := by
       rw [List.filter_eq_self]; intro y hy; have : y.born ≠ e.born := fun hh => n2.1 (List.mem_map.2 ⟨y, hy, hh⟩)
       simpa using this
     rw [List.filter_append, List.filter_cons, f1, f2]; simp only [beq_self_eq_true, Bool.not_true, Bool.false_eq_true, if_false]; unfold Rep at h3 h4 ⊢; rw [List.map_append, List.map_append, h3, h4]
   · rw [h1] at hp; refine List.Perm.trans ?_ hp; rw [List.append_assoc]; refine List.Perm.append_left ss ?_; simp only [List.singleton_append]; exact List.perm_middle.symm
   · rcases hw1 with rfl | rfl <;> rfl
   · rcases hw1 with rfl | rfl <;> rfl
   · rcases hw1 with rfl | rfl <;> rfl
   · rcases hw1 with rfl | rfl <;> simp [setBlock]
   · rw [hget, if_neg hk]; rcases hw1 with rfl | rfl <;> rfl
   · rcases hw1 with rfl | rfl <;> simp [setBlock]
section
variable (w : World) {ops : Array Oper} {rest : List Oper} {o : Oper} {a : Act} {Q : Exit -> Act -> World -> Prop}
theorem qhf (hg : o.guard = none) (m : Operand) (t : TypeId) (hop : o.op = Op.range t m) {T Te : TypeId} (ht : P.underlying t = some (.map T Te)) (b : Nat) {enc : K -> Value} {encV : V -> Value} {L : List (K × V)}
  (hm : a.eval m = .map (some b)) (h : MapIs w b enc encV L)
  (hK : ∀ w', IterIs w' w.heap.size b enc encV L [] L -> Below w.heap.size w w' -> w'.heap.size = w.heap.size + 1 -> wpList P ops Q rest (a.put o.dst (.pointer (some ⟨w.heap.size, 0, none⟩))) w') : wpList P ops Q (o :: rest) a w := by
 refine wpList_plain hg fun K' hK' => ?_
 obtain ⟨w', hrun, r1, r2, r3⟩ := h.range (P := P) ht; unfold Oper.wp; simp [execOp, hop, hm, hrun, Result.andThen]; exact hK' _ _ (hK w' r1 r2 r3)
theorem qee (hg : o.guard = none) (it : Operand) (hop : o.op = Op.next it false) (r b : Nat) {enc : K -> Value} {encV : V -> Value} {L ss left : List (K × V)}
   (hit : a.eval it = .pointer (some ⟨r, 0, none⟩)) (h : IterIs w r b enc encV L ss left)
   (hDone : left = [] -> ss.Perm L -> wpList P ops Q rest (a.put o.dst (.tuple #[.bool false])) w)
   (hMore : ∀ x left' w', IterIs w' r b enc encV L (ss ++ [x]) left' -> left.length = left'.length + 1 -> But (· = r) w w' -> w'.heap.size = w.heap.size -> (Instr.entry (.pointer (some ⟨r, 0, none⟩))).run P w' = .ok (.tuple #[enc x.1, encV x.2]) w' ->
    wpList P ops Q rest (a.put o.dst (.tuple #[.bool true, enc x.1, encV x.2])) w') : wpList P ops Q (o :: rest) a w := by
 refine wpList_plain hg fun K' hK' => ?_
 unfold Oper.wp; rcases h.next (P := P) o.type with ⟨h0, hl, hrun⟩ | ⟨x, left', w', hrun, h1, h2, h3, h4, h5⟩
 · simp [execOp, hop, hit, hrun, Result.andThen]; exact hK' _ _ (hDone h0 hl)
 · simp [execOp, hop, hit, hrun, Result.andThen]; exact hK' _ _ (hMore x left' w' h1 h2 h3 h4 h5)
end
end Go.Gm
namespace Go.Proofs
open Go Go.Am Go.RowKit Go.Sy Go.Gm Go.Maps Go.Sort
section
variable {K V : Type} [DecidableEq K] {F : Fence} {n : Nat} {P : Program} (w : World) {ops : Array Oper} {rest : List Oper} {o : Oper} {a : Act} {Q : Exit -> Act -> World -> Prop}
theorem qfH (hg : o.guard = none) (m : Operand) (t : TypeId) (hop : o.op = Op.range t m) {T Te : TypeId} (ht : P.underlying t = some (.map T Te)) (b : Nat) {enc : K -> Value} {encV : V -> Value} {L : List (K × V)}
  (hm : a.eval m = .map (some b)) (h : MapIs w b enc encV L)
  (hK : ∀ w', IterIs w' w.heap.size b enc encV L [] L -> w.grownBy w' none -> w'.heap.size = w.heap.size + 1 -> wpListIn F n P ops Q rest (a.put o.dst (.pointer (some ⟨w.heap.size, 0, none⟩))) w') : wpListIn F n P ops Q (o :: rest) a w := by
 refine wpListIn_plain hg fun K' hK' => ?_
 obtain ⟨w', hrun, r1, r2, r3⟩ := h.range (P := P) ht; unfold Oper.wpIn; refine ⟨by simp [Oper.about, hop], ?_⟩; rw [Oper.semAt_plain F _ _ (by rw [hop]; intro c hc'; cases hc')]; simp [execOp, hop, hm, hrun, Result.andThen]; exact hK' _ _ (hK w' r1 ⟨r2.os, r2.tape, r2.output, r2.size, fun i hi _ => r2.block i hi⟩ r3)
theorem qfZ (hg : o.guard = none) (it : Operand) (hop : o.op = Op.next it false) (r b : Nat) {enc : K -> Value} {encV : V -> Value} {L ss left : List (K × V)}
   (hit : a.eval it = .pointer (some ⟨r, 0, none⟩)) (h : IterIs w r b enc encV L ss left)
   (hDone : left = [] -> ss.Perm L -> wpListIn F n P ops Q rest (a.put o.dst (.tuple #[.bool false])) w)
   (hMore : ∀ x left' w', IterIs w' r b enc encV L (ss ++ [x]) left' -> left.length = left'.length + 1 -> w.grownBy w' (some r) -> w'.heap.size = w.heap.size -> (Instr.entry (.pointer (some ⟨r, 0, none⟩))).run P w' = .ok (.tuple #[enc x.1, encV x.2]) w' ->
    wpListIn F n P ops Q rest (a.put o.dst (.tuple #[.bool true, enc x.1, encV x.2])) w') : wpListIn F n P ops Q (o :: rest) a w := by
 refine wpListIn_plain hg fun K' hK' => ?_
 unfold Oper.wpIn; refine ⟨by simp [Oper.about, hop], ?_⟩; rw [Oper.semAt_plain F _ _ (by rw [hop]; intro c hc'; cases hc')]; rcases h.next (P := P) o.type with ⟨h0, hl, hrun⟩ | ⟨x, left', w', hrun, h1, h2, h3, h4, h5⟩
 · simp [execOp, hop, hit, hrun, Result.andThen]; exact hK' _ _ (hDone h0 hl)
 · simp [execOp, hop, hit, hrun, Result.andThen]; exact hK' _ _ (hMore x left' w' h1 h2 ⟨h3.os, h3.tape, h3.output, h3.size, fun i hi hne => h3.block i hi fun e => hne (by rw [e])⟩ h4 h5)
end
theorem _root_.Go.Gm.IterIs.walks {K V : Type} [DecidableEq K] {w w' : World} {r b : Nat} {enc : K -> Value} {encV : V -> Value} {L ss left : List (K × V)} (h : IterIs w r b enc encV L ss left) (hk : KeepsWalks w w') : IterIs w' r b enc encV L ss left := by
 obtain ⟨⟨es, clk, seen, hb, hr, hs, hc, hi, hl⟩, hp⟩ := h; exact ⟨⟨es, clk, seen, hk.same _ _ hb rfl, hr, hs, hc, hk.same _ _ hi rfl, hl⟩, hp⟩
theorem _root_.Go.Gm.IterIs.isWalk {K V : Type} [DecidableEq K] {w : World} {r b : Nat} {enc : K -> Value} {encV : V -> Value} {L ss left : List (K × V)} (h : IterIs w r b enc encV L ss left) : ∃ o : Obj, w.heap[r]? = some o /\ o.isWalk = true := by
 obtain ⟨⟨es, clk, seen, hb, hr, hs, hc, hi, hl⟩, hp⟩ := h; exact ⟨_, hi, rfl⟩
theorem _root_.Go.Gm.IterIs.left_eq {K V : Type} [DecidableEq K] {w : World} {r b : Nat} {enc : K -> Value} {encV : V -> Value} {L ss left : List (K × V)} (h : IterIs w r b enc encV L ss left) : w.rangeLeft b r = left.length := by
 obtain ⟨⟨es, clk, seen, hb, hr, hs, hc, hi, hl⟩, hp⟩ := h; have := congrArg List.length hl; simp only [List.length_map, Array.length_toList] at this; unfold World.rangeLeft; rw [hb, hi]; exact this
theorem qwP (l Bm b n : Nat) (hn : 1 <= n) (L : DL) (J : List CDot -> World -> Prop)
  (hY : ∀ pre x W, J pre W -> pre.length < L.length -> YieldAt Fence.wide (n - 1) Tryz.prog l #[encD x] W fun e W' => e = .returned (.bool true) /\ J (pre ++ [x]) W' /\ KeepsWalks W W')
  (W : World) (hJ : AbidesFrom W.heap.size J) (hm : W.cell? ⟨Bm, 0, none⟩ = some (.map (some b))) (hown : MapIs W b encD encJ L) (h0 : J [] W) :
  CallsIn Fence.wide n Tryz.prog 231 #[.func (.yield l) #[] #[], .pointer (some ⟨Bm, 0, none⟩)] W fun e W' => (∃ v, e = .returned v) /\ ∃ ss : List CDot, ss.Perm (L.map (·.1)) /\ J ss W' := by
 refine callsIn_of_wp Tryz.func231 rfl trivial ?_ rfl; simp only [Tryz.ntmps231, List.size_toArray, List.length_cons, List.length_nil, Nat.reduceAdd, Nat.reduceSub, Array.replicate_succ, Array.replicate_zero, List.push_toArray, List.append_toArray, List.nil_append, List.cons_append]; gi_wp2_with (first
  | (gi_at_range; refine qfH _ rfl _ 101 rfl Tryz.underlying101 b rfl hown ?_; intro w0 hrg0 hg0 hs0)
  | gi_in)
 go_frame
 gi_loopw [3] (fun _ wr => ∃ (ss left : DL), IterIs wr W.heap.size b encD encJ L ss left /\ ss.length + left.length = L.length /\ J (ss.map (·.1)) wr /\ W.heap.size < wr.heap.size)
  (fun _ wr => wr.rangeLeft b W.heap.size)
 case atStart => exact ⟨[], L, hrg0, by simp, hJ [] W w0 none h0 hg0 (fun r e => by cases e), by omega⟩
 case round =>
  obtain ⟨ss, left, hrg, hcs, hJs, hbig⟩ := hrel; gi_wp2_with (first
    | (gi_at_next; refine qfZ _ rfl _ rfl W.heap.size b rfl hrg ?_ ?_)
    | gi_in)
  · intro hl0 hperm; gi_wp2
    go_end0
    exact ⟨⟨_, rfl⟩, _, hperm.map _, hJs⟩
  · intro d nn left' w2 hrg2 hlt hg2 hs2 hen; have hJ2 : J (ss.map (·.1)) w2 := hJ _ wr w2 (some W.heap.size) hJs hg2 (fun r e => by cases e; exact ⟨Nat.le_refl _, hrg.isWalk⟩); have hba : w2.grownBy (w2.alloc (.cells #[.int .i64 d.dev, .int .i64 d.inc, .int .i64 d.seq] 35)) none := World.grownBy_alloc w2 _ none; have hJ3 := hJ _ w2 _ none hJ2 hba (fun r e => by cases e); have hrg3 := hrg2.walks (KeepsWalks.alloc w2 (.cells #[.int .i64 d.dev, .int .i64 d.inc, .int .i64 d.seq] 35)); obtain ⟨fn, tmps, assign, body, hy, hR⟩ := hY (ss.map (·.1)) d _ hJ3 (by simp; omega); rw [show encD d = .agg #[.int .i64 d.dev, .int .i64 d.inc, .int .i64 d.seq] from rfl] at hen hy; clear hs2; gi_wp2
    refine hR.mono ?_; rintro e W3 ⟨rfl, hJ4, hk4⟩; gi_wp2
    have hrg4 := hrg3.walks hk4; have hz4 := hk4.size; have hz2 := hg2.size; go_roundw
    case rel => exact ⟨ss ++ [(d, nn)], left', hrg4, by simp; omega, by simpa using hJ4, by simp at hz4; omega⟩
    case measure => rw [hrg4.left_eq, hrg.left_eq]; omega
theorem qv1 (n : Nat) (hn : 1 <= n) (Bm b : Nat) (L : DL) (w : World) (hBm : Bm < w.heap.size) (hm : w.cell? ⟨Bm, 0, none⟩ = some (.map (some b))) (hown : MapIs w b encD encJ L) :
  SeqGives Fence.wide n Tryz.prog 231 #[.pointer (some ⟨Bm, 0, none⟩)] encD (fun ss => ss.Perm (L.map (·.1))) L.length w := fun l J W hW hJ hY h0 =>
 qwP l Bm b n hn L J hY W hJ ((hW.cell (p := ⟨Bm, 0, none⟩) hBm).trans hm) (hown.same (hW.block b (Go.Gm.MapIs.lt hown))) h0
end Go.Proofs
set_option maxHeartbeats 4000000
namespace Go.Proofs
open Go Go.Am Go.RowKit Go.Sy Go.Gm
section
variable [Inhabited DrP]
theorem qq5 {tab : Tab} {w : World} {l : List CDot} {v : Value} (h : DotsV w l v) : SimP (rowH tab w).get (dots l) (absV w.heap.size v) := by
 rcases h with ⟨rfl, a, c, rfl⟩ | ⟨b, off, cap, arr, e, fz, rfl, hb, hc, hl, hi⟩
 · cases a with
   | none =>
    cases c with
    | zero => exact .lst0 rfl (.inl rfl)
    | succ c => exact .lst0 rfl (.inr (.inr ⟨_, _, rfl⟩))
   | some a => rw [qh5]; exact .lst0 rfl (.inr (.inr ⟨_, _, rfl⟩))
 · refine qiJ hb (sz := 3) (by omega) (fun _ _ => rfl) hl rfl hc fun i x j s hx hs => ?_
   have hil : i < l.length := (List.getElem?_eq_some_iff.1 hx).1; have hxe : l[i] = x := (List.getElem?_eq_some_iff.1 hx).2; obtain ⟨e0, e1, e2⟩ := hi i hil; rw [hxe] at e0 e1 e2; have hj : j < 3 := (List.getElem?_eq_some_iff.1 hs).1; match j, hj with
   | 0, _ => cases hs; exact ⟨_, e0, .int _ _⟩
   | 1, _ => cases hs; exact ⟨_, e1, .int _ _⟩
   | 2, _ => cases hs; exact ⟨_, e2, .int _ _⟩
theorem quM {tab : Tab} {w : World} {e : CEvent} {u : Value} (h : EvV w u e) : SimP (rowH tab w).get (.agg e.enc) (absA w.heap.size u) := by
 obtain ⟨v, rfl, hd⟩ := h; have h18 := qq5 (tab := tab) hd; unfold qci absA; refine .agg rfl fun i c x hc hx => ?_
 have hj : i < 19 := (List.getElem?_eq_some_iff.1 hc).1; match i, hj with
 | 0, _ | 1, _ | 2, _ | 3, _ | 4, _ | 5, _ | 6, _ | 15, _ | 16, _ | 17, _ => cases hc; cases hx; exact .int _ _
 | 7, _ | 8, _ | 9, _ | 10, _ => cases hc; cases hx; exact .str _
 | 11, _ | 12, _ | 13, _ | 14, _ => cases hc; cases hx; exact .bool _
 | 18, _ => cases hc; cases hx; exact h18
end
theorem qvp {w : World} {e : CEvent} {u : Value} (h : EvV w u e) (hs : qcK e) : Calls Tryz.prog 65 #[u] w fun e' w' => e' = .returned (.bool (qa7 e)) /\ Below w.heap.size w w' :=
 qpz (C := fun I => cEv1 qcK qa7) (fun I => @ql9 I) (hfn := rfl) (hb := rfl) (args := [u]) (fun I => ⟨e, hs, ⟨rfl, fun j c v hc hv => by
  match j with
  | 0 => cases hc; cases hv; exact @quM I _ _ _ _ h
  | _ + 1 => cases hc⟩, rfl⟩)
def qas : List CDot -> List Value
 | [] => []
 | d :: l => .int .i64 d.dev :: .int .i64 d.inc :: .int .i64 d.seq :: qas l
theorem qdE : ∀ l, (qas l).length = l.length * 3
 | [] => rfl
 | d :: l => by simp only [qas, List.length_cons, qdE l]; omega
theorem qfN : ∀ l, ∀ u ∈ qas l, u.oneCell' = true
 | [], u, h => by cases h
 | d :: l, u, h => by
  simp only [qas, List.mem_cons] at h; rcases h with rfl | rfl | rfl | h
  · rfl
  · rfl
  · rfl
  · exact qfN l u h
theorem qbT : ∀ (l : List CDot) (i : Nat) (h : i < l.length), (qas l)[i * 3]? = some (.int .i64 l[i].dev) /\ (qas l)[i * 3 + 1]? = some (.int .i64 l[i].inc) /\ (qas l)[i * 3 + 2]? = some (.int .i64 l[i].seq)
 | d :: l, 0, _ => ⟨rfl, rfl, rfl⟩
 | d :: l, i + 1, h => by
  have := qbT l i (by simpa using h); rw [show (i + 1) * 3 = i * 3 + 1 + 1 + 1 by omega]; exact this
theorem qkv (l : List CDot) {j : Nat} {u : Value} (h : (qas l)[j]? = some u) : ∃ i, ∃ hi : i < l.length, (j = i * 3 /\ u = .int .i64 l[i].dev) \/ (j = i * 3 + 1 /\ u = .int .i64 l[i].inc) \/ (j = i * 3 + 2 /\ u = .int .i64 l[i].seq) := by
 have hj : j < l.length * 3 := by rw [<- qdE]; exact (List.getElem?_eq_some_iff.1 h).1
 have hi : j / 3 < l.length := by omega
 obtain ⟨h0, h1, h2⟩ := qbT l (j / 3) hi; refine ⟨j / 3, hi, ?_⟩; rcases (by omega : j = j / 3 * 3 \/ j = j / 3 * 3 + 1 \/ j = j / 3 * 3 + 2) with e | e | e
 · rw [e, h0] at h; exact .inl ⟨e, (Option.some.inj h).symm⟩
 · rw [e, h1] at h; exact .inr (.inl ⟨e, (Option.some.inj h).symm⟩)
 · rw [e, h2] at h; exact .inr (.inr ⟨e, (Option.some.inj h).symm⟩)
theorem qoJ {w : World} {base : Nat} {l : List CDot} {v : Value} (h : w.ownsRow base 35 3 v l.length (qas l)) : DotsV w l v := by
 rcases h.2 with ⟨rfl, h0⟩ | ⟨g, cap, cur, rfl, hb, hg, h1, h2, h3, h4⟩
 · exact .inl ⟨List.length_eq_zero_iff.1 h0, _, _, rfl⟩
 · refine .inr ⟨g, 0, cap, cur, 35, (0, 0), rfl, hg, h1, by omega, fun i hi => ?_⟩; obtain ⟨e0, e1, e2⟩ := qbT l i hi; have key : ∀ j, j < l.length * 3 -> cur[0 + j]? = (qas l)[j]? := fun j hj => by
    rw [<- h4, List.getElem?_take, if_pos hj, Array.getElem?_toList, Nat.zero_add]
   exact ⟨(key _ (by omega)).trans e0, (key (i * 3 + 1) (by omega)).trans e1, (key (i * 3 + 2) (by omega)).trans e2⟩
def NewD (n : Nat) (l : List CDot) (v : Value) : Prop := l = [] \/ ∃ b off k c, v = .slice (some ⟨b, off, none⟩) k c /\ n <= b
def DotsN (w : World) (n : Nat) (l : List CDot) (v : Value) : Prop := (l = [] /\ ∃ a c, v = .slice a 0 c) \/ ∃ b cap arr, v = .slice (some ⟨b, 0, none⟩) l.length cap /\ n <= b /\ w.heap[b]? = some (.cells arr 35 (0, 0)) /\ l.length <= cap /\ l.length * 3 <= arr.size /\
 ∀ i (h : i < l.length), arr[i * 3]? = some (.int .i64 l[i].dev) /\ arr[i * 3 + 1]? = some (.int .i64 l[i].inc) /\ arr[i * 3 + 2]? = some (.int .i64 l[i].seq)
theorem DotsN.dots {w : World} {n : Nat} {l : List CDot} {v : Value} (h : DotsN w n l v) : DotsV w l v := by
 rcases h with h | ⟨b, cap, arr, rfl, hb, h1, h2, h3, h4⟩
 · exact .inl h
 · exact .inr ⟨b, 0, cap, arr, 35, (0, 0), rfl, h1, h2, by rw [Nat.zero_add]; exact h3, fun i hi => by rw [Nat.zero_add]; exact h4 i hi⟩
theorem DotsN.mono {w : World} {n m : Nat} {l : List CDot} {v : Value} (h : DotsN w n l v) (hm : m <= n) : DotsN w m l v := by
 rcases h with h | ⟨b, cap, arr, rfl, hb, hr⟩
 · exact .inl h
 · exact .inr ⟨b, cap, arr, rfl, Nat.le_trans hm hb, hr⟩
theorem DotsN.keep {w w' : World} {n : Nat} {l : List CDot} {v : Value} (h : DotsN w n l v) (hs : ∀ b arr, n <= b -> w.heap[b]? = some (.cells arr 35 (0, 0)) -> w'.heap[b]? = w.heap[b]?) : DotsN w' n l v := by
 rcases h with h | ⟨b, cap, arr, rfl, hb, h1, hr⟩
 · exact .inl h
 · exact .inr ⟨b, cap, arr, rfl, hb, (hs b arr hb h1).trans h1, hr⟩
theorem DotsN.one {w : World} {n : Nat} {l : List CDot} {v : Value} (h : DotsN w n l v) : ∃ a n c, v = .slice a n c := by
 rcases h with ⟨_, a, c, rfl⟩ | ⟨_, _, _, rfl, _⟩ <;> exact ⟨_, _, _, rfl⟩
theorem qnb {w : World} {base : Nat} {l : List CDot} {v : Value} (h : w.ownsRow base 35 3 v l.length (qas l)) : DotsN w base l v := by
 rcases h.2 with ⟨rfl, h0⟩ | ⟨g, cap, cur, rfl, hb, hg, h1, h2, h3, h4⟩
 · exact .inl ⟨List.length_eq_zero_iff.1 h0, _, _, rfl⟩
 · refine .inr ⟨g, cap, cur, rfl, hb, hg, h1, by omega, fun i hi => ?_⟩; obtain ⟨e0, e1, e2⟩ := qbT l i hi; have key : ∀ j, j < l.length * 3 -> cur[j]? = (qas l)[j]? := fun j hj => by
    rw [<- h4, List.getElem?_take, if_pos hj, Array.getElem?_toList]
   exact ⟨(key _ (by omega)).trans e0, (key (i * 3 + 1) (by omega)).trans e1, (key (i * 3 + 2) (by omega)).trans e2⟩
theorem qvv : (Tryz.prog.info? 35).map (fun i => (i.zero, i.size, i.bytes)) = some (some (.agg #[.int .i64 0, .int .i64 0, .int .i64 0]), 3, 24) := by kernel_rfl
theorem qwl {w : World} {l : List CDot} {v : Value} (h : DotsV w l v) (hl : l.length <= 100000) : Calls Tryz.prog 112 #[v] w fun e w' => ∃ v', e = .returned v' /\ DotsN w' w.heap.size l v' /\ Below w.heap.size w w' := by
 have q40 : ∀ (w : World) (a : Option Addr) (n c n' c' : Nat), (binOp .eql 40 (.slice a n c) (.slice none n' c')).run Tryz.prog w = .ok (.bool a.isNone) w := fun w a n c n' c' => Lib.run_eql_slice_nil w _ _ a n c n' c' Tryz.underlying40
 obtain ⟨i0, hi, hz0, hz1, hz2⟩ : ∃ i0, Tryz.prog.info? 35 = some i0 /\ i0.zero = some (.agg #[.int .i64 0, .int .i64 0, .int .i64 0]) /\ i0.size = 3 /\ i0.bytes = 24 := by
   have h := qvv
   cases e : Tryz.prog.info? 35 with
   | none => rw [e] at h; cases h
   | some i => rw [e] at h; simp only [Option.map_some, Option.some.injEq, Prod.mk.injEq] at h; exact ⟨i, rfl, h.1, h.2.1, h.2.2⟩
 have go : ∀ (p : Addr) (c : Nat), (∀ j u, (qas l)[j]? = some u -> w.cell? (p.add j) = some u) -> Calls Tryz.prog 112 #[.slice (some p) l.length c] w fun e w' => ∃ v', e = .returned v' /\ DotsN w' w.heap.size l v' /\ Below w.heap.size w w' := by
   intro p c hc; have A : Aside (∀ j u, (qas l)[j]? = some u -> w.cell? (p.add j) = some u) := hc; clear hc; go_enter Tryz.func112, Tryz.ntmps112
   go_wp2_with (at_builtin; refine wpList_append_own _ rfl _ _ 40 rfl w.heap.size 35 i0 _ 3 24 Tryz.underlying40 hi hz0 hz1 hz2 rfl (by omega) _ _ _ rfl (World.ownsRow_made w #[] 0 (Nat.le_refl _) (Nat.zero_le _) (by simp)) p l.length c (qas l) rfl ?qc1 ?qc2 ?qc3 ?qc4 ?qc5 ?qc6 ?_)
   case qc1 => exact qdE l
   case qc2 =>
     intro j u hj; exact Lib.cell?_alloc_some _ (A.out j u hj)
   case qc3 => exact qfN l
   case qc4 => rw [Nat.zero_add]; unfold maxLen; omega
   case qc5 => rw [Nat.zero_add]; omega
   case qc6 => simp
   intro v' w1 hown hgrow hnil; go_wp2; go_ret; refine ⟨v', rfl, qnb (by simpa using hown), ?_⟩; exact ((Below.refl _ w).alloc (Nat.le_refl _) _).grown hgrow (by simp) (by intro k hk; simp [Value.ownBlock] at hk; omega)
 rcases h with ⟨rfl, a, c, rfl⟩ | ⟨b, off, cap, arr, e, fz, rfl, hb, hc, hl2, hi2⟩
 · cases a with
   | none =>
     clear go; go_enter Tryz.func112, Tryz.ntmps112
     go_wp2; go_ret; exact ⟨_, rfl, .inl ⟨rfl, _, _, rfl⟩, Below.refl _ _⟩
   | some a =>
     exact go a c fun j u hj => by cases hj
 · refine go ⟨b, off, none⟩ cap fun j u hj => ?_
   rw [Addr.add_lit]; obtain ⟨i, hil, hh⟩ := qkv l hj; obtain ⟨e0, e1, e2⟩ := hi2 i hil; have cell : ∀ {j : Nat} {u : Value}, arr[j]? = some u -> w.cell? ⟨b, j, none⟩ = some u := fun hx => by
     unfold World.cell?; simp only [hb, Option.isSome_none, Bool.false_eq_true, if_false]; exact hx
   rcases hh with ⟨rfl, rfl⟩ | ⟨rfl, rfl⟩ | ⟨rfl, rfl⟩
   · exact cell e0
   · rw [<- Nat.add_assoc]; exact cell e1
   · rw [<- Nat.add_assoc]; exact cell e2
end Go.Proofs
namespace Go.Proofs
open Go Go.Am Go.RowKit Go.Sy Go.Gm Go.Maps Go.Sort
def rfOf : Code -> Option (Code × Code)
 | .rangeFunc _ _ a b => some (a, b)
 | .seq a b => match rfOf a with
  | some x => some x
  | none => rfOf b
 | .block _ c => rfOf c
 | .scope c => rfOf c
 | .loop c => rfOf c
 | _ => none
noncomputable def apA : Code := ((Tryz.f253.body.bind rfOf).getD (.skip, .skip)).1
noncomputable def apB : Code := ((Tryz.f253.body.bind rfOf).getD (.skip, .skip)).2
noncomputable def qfV (fn : FuncId) (sv : Value) (Bs D : Nat) (st : LoopState) (pend : Option Code) : Loop :=
 { state := st, pending := pend, fn, tmps := #[.slice none 0 0, sv, .pointer (some ⟨Bs, 0, none⟩), undef, .slice none 0 0, undef, sv, undef, undef, undef, undef, undef, undef], params := #[7], assign := apA, body := apB, defers := D }
structure ApD (w0 : World) (fn : FuncId) (sv : Value) (Bs l D : Nat) (ss : List CDot) (W : World) : Prop where
 box : ∃ v, W.heap[Bs]? = some (.cells #[v] 40 (0, 0)) /\ W.ownsRow w0.heap.size 35 3 v ss.length (qas ss)
 L : W.heap[l]? = some (.loop (qfV fn sv Bs D .ready none))
 K : W.heap[D]? = some (.deferred (some []))
 below : Below w0.heap.size w0 W
theorem qmq (w0 : World) (fn : FuncId) (sv : Value) (Bs l D B : Nat) (hB : w0.heap.size <= B) : AbidesFrom B (ApD w0 fn sv Bs l D) := fun s W W' row h hg hrow => by
 have hrow' : ∀ r, row = some r -> ∃ o : Obj, W.heap[r]? = some o /\ o.isWalk = true := fun r e => (hrow r e).2
 obtain ⟨v, hv, hr⟩ := h.box; exact ⟨⟨v, (grownBy_keeps hg hrow' hv rfl).trans hv, ownsRow_abides_a hr hg hrow'⟩, (grownBy_keeps hg hrow' h.L rfl).trans h.L, (grownBy_keeps hg hrow' h.K rfl).trans h.K, h.below.grown hg h.below.size (fun k e => Nat.le_trans hB (hrow k e).1)⟩
theorem qeO (l : List CDot) (x : CDot) : qas (l ++ [x]) = qas l ++ [.int .i64 x.dev, .int .i64 x.inc, .int .i64 x.seq] := by
 induction l with
 | nil => rfl
 | cons d l ih => simp only [List.cons_append, qas, ih]
theorem qvA : ∃ i0, Tryz.prog.info? 35 = some i0 /\ i0.zero = some (.agg #[.int .i64 0, .int .i64 0, .int .i64 0]) /\ i0.size = 3 /\ i0.bytes = 24 := by
 have h := qvv
 cases e : Tryz.prog.info? 35 with
 | none => rw [e] at h; cases h
 | some i => rw [e] at h; simp only [Option.map_some, Option.some.injEq, Prod.mk.injEq] at h; exact ⟨i, rfl, h.1, h.2.1, h.2.2⟩
theorem qwe (m : Nat) (w0 : World) (fn : FuncId) (sv : Value) (Bs l D : Nat) (hBl : Bs ≠ l) (hDl : D ≠ l) (hDB : D ≠ Bs) (h0B : w0.heap.size <= Bs) (h0l : w0.heap.size <= l)
  (N : Nat) (hN : N <= 1000000) (ss : List CDot) (x : CDot) (W : World) (h : ApD w0 fn sv Bs l D ss W) (hlen : ss.length < N) :
  YieldAt Fence.wide m Tryz.prog l #[encD x] W fun e W' => e = .returned (.bool true) /\ ApD w0 fn sv Bs l D (ss ++ [x]) W' /\ KeepsWalks W W' := by
 obtain ⟨i0, hi, hz0, hz1, hz2⟩ := qvA; obtain ⟨v, hv, hrow⟩ := h.box; refine ⟨fn, #[.slice none 0 0, sv, .pointer (some ⟨Bs, 0, none⟩), undef, .slice none 0 0, undef, sv, encD x, undef, undef, undef, undef, undef], apA, apB, by simpa [qfV] using run_yield (P := Tryz.prog) (args := #[encD x]) h.L rfl, roundIn_of_wpIn trivial ?_⟩; have hl : l < W.heap.size := (Array.getElem?_eq_some_iff.1 h.L).1; have hne : ∀ cur : Array Value, Obj.cells #[v] 40 (0, 0) ≠ .cells cur 35 (0, 0) := fun cur e => by
  have := (Obj.cells.inj e).2.1; exact absurd this (by decide)
 obtain ⟨W1, hW1⟩ : ∃ W1, W.alloc (.cells #[.int .i64 x.dev, .int .i64 x.inc, .int .i64 x.seq] 35) = W1 := ⟨_, rfl⟩; have hs1 : W1.heap.size = W.heap.size + 1 := by rw [<- hW1]; simp
 have hold1 : ∀ k, k < W.heap.size -> W1.heap[k]? = W.heap[k]? := fun k hk => by rw [<- hW1]; exact Below.heap_alloc _ _ k hk
 have hBlt0 : Bs < W.heap.size := (Array.getElem?_eq_some_iff.1 hv).1; have hDlt0 : D < W.heap.size := (Array.getElem?_eq_some_iff.1 h.K).1; have hv1 : W1.heap[Bs]? = some (.cells #[v] 40 (0, 0)) := (hold1 Bs hBlt0).trans hv; have hL1 : W1.heap[l]? = some (.loop (qfV fn sv Bs D .ready none)) := (hold1 l hl).trans h.L; have hK1 : W1.heap[D]? = some (.deferred (some [])) := (hold1 D hDlt0).trans h.K; have hrow1 : W1.ownsRow w0.heap.size 35 3 v ss.length (qas ss) := by rw [<- hW1]; exact hrow.alloc _
 have hb1 : Below w0.heap.size w0 W1 := by rw [<- hW1]; exact h.below.alloc h.below.size _
 have hk1 : KeepsWalks W W1 := by rw [<- hW1]; exact KeepsWalks.alloc _ _
 have x0' : W1.cell? ⟨W.heap.size, 0, none⟩ = some (.int .i64 x.dev) := by rw [<- hW1]; simp
 have x1' : W1.cell? ⟨W.heap.size, 1, none⟩ = some (.int .i64 x.inc) := by rw [<- hW1]; simp
 have x2' : W1.cell? ⟨W.heap.size, 2, none⟩ = some (.int .i64 x.seq) := by rw [<- hW1]; simp
 have hbr := run_beginRound (P := Tryz.prog) hL1 rfl; obtain ⟨W2, hW2⟩ : ∃ W2, W1.putObj l (.loop { qfV fn sv Bs D .ready none with state := .busy }) = W2 := ⟨_, rfl⟩; rw [hW2] at hbr; have hg2 : W1.grownBy W2 (some l) := by rw [<- hW2]; exact grownBy_putObj_a _ _ _
 have hk2 : KeepsWalks W1 W2 := by rw [<- hW2]; exact KeepsWalks.putObj _ hL1 rfl
 have hv2 : W2.heap[Bs]? = some (.cells #[v] 40 (0, 0)) := by rw [<- hW2]; exact (World.putObj_heap_other hBl).trans hv1
 have hK2 : W2.heap[D]? = some (.deferred (some [])) := by rw [<- hW2]; exact (World.putObj_heap_other hDl).trans hK1
 have hL2 : W2.heap[l]? = some (.loop { qfV fn sv Bs D .ready none with state := .busy }) := by rw [<- hW2]; exact World.putObj_heap_same (by omega)
 have hrow2 : W2.ownsRow w0.heap.size 35 3 v ss.length (qas ss) := hrow1.kept hg2 (ownsRow_ne_a hrow1 hL1 (fun cur e => by cases e)); have hb2 : Below w0.heap.size w0 W2 := hb1.grown hg2 hb1.size (fun k e => by cases e; exact h0l); have hs2 : W2.heap.size = W.heap.size + 1 := by rw [<- hW2]; simp [hs1]
 have hbx : W2.heap[W.heap.size]? = W1.heap[W.heap.size]? := by rw [<- hW2]; exact World.putObj_heap_other (by omega)
 have x0 := qaf x0' hbx; have x1 := qaf x1' hbx; have x2 := qaf x2' hbx; obtain ⟨hc2, hf2⟩ := cell_of_box_a hv2; have hBlt : Bs < W2.heap.size := (Array.getElem?_eq_some_iff.1 hv2).1; have hl2 : l < W2.heap.size := (Array.getElem?_eq_some_iff.1 hL2).1; have hDlt : D < W2.heap.size := (Array.getElem?_eq_some_iff.1 hK2).1; have ne_of : ∀ {j : Nat} {o : Obj}, W2.heap[j]? = some o -> (∀ cur, o ≠ .cells cur 35 (0, 0)) -> some j ≠ v.ownBlock := fun hj hno => by
  rcases ownsRow_ne_a hrow2 hj hno with e | e
  · rw [e]; simp
  · exact fun e' => e e'.symm
 clear hW2; rw [show encD x = .agg #[.int .i64 x.dev, .int .i64 x.inc, .int .i64 x.seq] from rfl]; conv => arg 4; whnf
 gi_wp2_with gi_round_op_a
 conv => arg 4; whnf
 obtain ⟨W2b, hW2b⟩ : ∃ W2b, W2.alloc (.cells #[.int .i64 x.dev, .int .i64 x.inc, .int .i64 x.seq] 35) = W2b := ⟨_, rfl⟩; have hrow2b : W2b.ownsRow w0.heap.size 35 3 v ss.length (qas ss) := by rw [<- hW2b]; exact hrow2.alloc _
 have hs2b : W2b.heap.size = W2.heap.size + 1 := by rw [<- hW2b]; simp
 have hold2b : ∀ k, k < W2.heap.size -> W2b.heap[k]? = W2.heap[k]? := fun k hk => by rw [<- hW2b]; exact Below.heap_alloc _ _ k hk
 have y0 : W2b.cell? ⟨W2.heap.size, 0, none⟩ = some (.int .i64 x.dev) := by rw [<- hW2b]; simp
 have y1 : W2b.cell? ⟨W2.heap.size, 1, none⟩ = some (.int .i64 x.inc) := by rw [<- hW2b]; simp
 have y2 : W2b.cell? ⟨W2.heap.size, 2, none⟩ = some (.int .i64 x.seq) := by rw [<- hW2b]; simp
 rw [hs2] at y0 y1 y2; have hcells : ∀ j u, ([Value.int .i64 x.dev, .int .i64 x.inc, .int .i64 x.seq] : List Value)[j]? = some u -> W2b.cell? ((⟨W.heap.size + 1, 0, none⟩ : Addr).add j) = some u := fun j u hj => by
  rw [Addr.add_lit]; match j with
  | 0 => cases hj; exact y0
  | 1 => cases hj; exact y1
  | 2 => cases hj; exact y2
  | _ + 3 => cases hj
 have hb2b : Below w0.heap.size w0 W2b := by rw [<- hW2b]; exact hb2.alloc hb2.size _
 have hz2b : w0.heap.size <= W2b.heap.size := hb2b.size; gi_wp2_with (first
  | (gi_at_builtin; refine wpListIn_append_own _ rfl _ _ 40 rfl w0.heap.size 35 i0 _ 3 24 Tryz.underlying40 hi hz0 hz1 hz2 rfl (by decide) _ _ _ rfl hrow2b ⟨W.heap.size + 1, 0, none⟩ 1 1 [.int .i64 x.dev, .int .i64 x.inc, .int .i64 x.seq] rfl rfl hcells (by simp [Value.oneCell']) (by unfold maxLen; omega) (by omega) hz2b ?_; intro v' w3 hown' hg3 hnil3; have hg3' : W2b.grownBy w3 v.ownBlock := hg3; have hv3 : w3.heap[Bs]? = some (.cells #[v] 40 (0, 0)) := (hg3'.block Bs (by omega) (ne_of hv2 hne)).trans ((hold2b Bs hBlt).trans hv2); obtain ⟨hc3, hf3⟩ := cell_of_box_a hv3; obtain ⟨g', cap', cur', rfl, hbase', hgb', hr1, hr2, hr3, hr4⟩ : ∃ g' cap' cur', v' = .slice (some ⟨g', 0, none⟩) (ss.length + 1) cap' /\ w0.heap.size <= g' /\ w3.heap[g']? = some (.cells cur' 35 (0, 0)) /\ ss.length + 1 <= cap' /\ cap' <= maxLen /\ cur'.size = cap' * 3 /\ cur'.toList.take ((ss.length + 1) * 3) = qas ss ++ [.int .i64 x.dev, .int .i64 x.inc, .int .i64 x.seq] := hown'.2.resolve_left (fun hh => absurd hh.2 (by omega)); go_frame)
  | gi_round_op_a)
 have hL3 : w3.heap[l]? = some (.loop { qfV fn sv Bs D .ready none with state := .busy }) := (hg3'.block l (by omega) (ne_of hL2 (fun cur e => by cases e))).trans ((hold2b l hl2).trans hL2); have hK3 : w3.heap[D]? = some (.deferred (some [])) := (hg3'.block D (by omega) (ne_of hK2 (fun cur e => by cases e))).trans ((hold2b D hDlt).trans hK2); obtain ⟨w4, hw4⟩ : ∃ w4, w3.setCell ⟨Bs, 0, none⟩ (.slice (some ⟨g', 0, none⟩) (ss.length + 1) cap') = w4 := ⟨_, rfl⟩; rw [hw4]; have hg4 : w3.grownBy w4 (some Bs) := by rw [<- hw4]; exact grownBy_setCell0_a _ _ _
 have hv4 : w4.heap[Bs]? = some (.cells #[.slice (some ⟨g', 0, none⟩) (ss.length + 1) cap'] 40 (0, 0)) := by rw [<- hw4]; exact heap_setCell_box_a _ hv3
 have hL4 : w4.heap[l]? = some (.loop { qfV fn sv Bs D .ready none with state := .busy }) := (hg4.block l (Array.getElem?_eq_some_iff.1 hL3).1 (fun e => hBl (by cases e; rfl))).trans hL3; have hK4 : w4.heap[D]? = some (.deferred (some [])) := (hg4.block D (Array.getElem?_eq_some_iff.1 hK3).1 (fun e => hDB (by cases e; rfl))).trans hK3; have hrow4 := hown'.kept hg4 (ownsRow_ne_a hown' hv3 hne); have hl4 : l < w4.heap.size := (Array.getElem?_eq_some_iff.1 hL4).1; have hb3 : Below w0.heap.size w0 w3 := hb2b.grown hg3' hz2b (fun k e => (hrow2b.lt k e).1); have hb4 : Below w0.heap.size w0 w4 := hb3.grown hg4 hb3.size (fun k e => by cases e; exact h0B); have hk2b : KeepsWalks W2 W2b := by rw [<- hW2b]; exact KeepsWalks.alloc _ _
 have hk4 : KeepsWalks W w4 := (((hk1.trans hk2).trans hk2b).trans (KeepsWalks.of_grownBy hg3' (ownsRow_not_walk_a hrow2b))).trans (by rw [<- hw4]; exact KeepsWalks.setCell _ _ _); clear hw4; refine ⟨_, _, run_endRound none hL4, rfl, ⟨⟨_, (World.putObj_heap_other hBl).trans hv4, ?_⟩, World.putObj_heap_same hl4, (World.putObj_heap_other hDl).trans hK4, hb4.grown (grownBy_putObj_a _ _ _) hb4.size (fun k e => by cases e; exact h0l)⟩, hk4.trans (KeepsWalks.putObj _ hL4 rfl)⟩; have := hrow4.kept (grownBy_putObj_a w4 l (.loop { { qfV fn sv Bs D .ready none with state := .busy } with state := if (none : Option Code).isNone then .ready else .done, pending := none })) (ownsRow_ne_a hrow4 hL4 (fun cur e => by cases e)); rw [qeO]; simpa using this
end Go.Proofs
namespace Go.Proofs
open Go Go.Am Go.RowKit Go.Sy Go.Gm Go.Maps Go.Sort
theorem qp9 : ∀ args w, (callFunc 231 args).run Tryz.prog w = .ok (.enter 231 args) w := enters_of Tryz.func231 (by kernel_rfl) rfl
theorem qv4 (n : Nat) (hn : 2 <= n) (lb : Array Value) (S : List CDot -> Prop) (N : Nat) (hN : N <= 1000000) (w : World) (hseq : SeqGives Fence.wide (n - 1) Tryz.prog 231 lb encD S N w) :
    CallsIn Fence.wide n Tryz.prog 253 #[.slice none 0 0, .func (.func 231) #[] lb] w fun e w' => ∃ (v : Value) (ss : List CDot), e = .returned v /\ S ss /\ w'.ownsRow w.heap.size 35 3 v ss.length (qas ss) /\ Below w.heap.size w w' := by
  have h1 : 1 <= n := by omega
  refine callsIn_of_wp_marks Tryz.func253 rfl trivial ?_ rfl; simp only [Tryz.ntmps253, List.size_toArray, List.length_cons, List.length_nil, Nat.reduceAdd, Nat.reduceSub, Array.replicate_succ, Array.replicate_zero, List.push_toArray, List.append_toArray, List.nil_append, List.cons_append]; gi_wp2
  refine wpIn_rangeFunc ?_; intro fn hfn; obtain ⟨W0, hW0⟩ : ∃ W0, w.alloc (.cells #[.slice none 0 0] 40) = W0 := ⟨_, rfl⟩; have hs0 : W0.heap.size = w.heap.size + 1 := by rw [<- hW0]; simp
  have hv0 : W0.heap[w.heap.size]? = some (.cells #[.slice none 0 0] 40 (0, 0)) := by rw [<- hW0]; exact World.alloc_heap_new w _
  have hb0 : Below w.heap.size w W0 := by rw [<- hW0]; exact (Below.refl _ w).alloc (Nat.le_refl _) _
  rw [hW0]; obtain ⟨W1, hW1⟩ : ∃ W1, (W0.alloc (.deferred (some []))).alloc (.loop (qfV fn (.func (.func 231) #[] lb) w.heap.size W0.heap.size .ready none)) = W1 := ⟨_, rfl⟩; have hold : ∀ k, k < W0.heap.size -> W1.heap[k]? = W0.heap[k]? := fun k hk => by
    rw [<- hW1]; exact (Below.heap_alloc _ _ k (by simp; omega)).trans (Below.heap_alloc _ _ k hk)
  have hb1 : Below w.heap.size w W1 := by rw [<- hW1]; exact (hb0.alloc hb0.size _).alloc (by have := hb0.size; simp; omega) _
  have hs1 : W1.heap.size = W0.heap.size + 2 := by rw [<- hW1]; simp
  have hM : ApD w fn (.func (.func 231) #[] lb) w.heap.size (W0.heap.size + 1) W0.heap.size [] W1 :=
    ⟨⟨_, (hold w.heap.size (by omega)).trans hv0, ⟨rfl, .inl ⟨rfl, rfl⟩⟩⟩,
     by rw [<- hW1]; have := World.alloc_heap_new (W0.alloc (.deferred (some []))) (.loop (qfV fn (.func (.func 231) #[] lb) w.heap.size W0.heap.size .ready none)); rwa [World.size_alloc] at this,
     by rw [<- hW1]; exact (Below.heap_alloc _ _ _ (by simp)).trans (World.alloc_heap_new W0 _), hb1⟩
  refine ⟨W0.heap.size + 1, [{ target := .collected W0.heap.size, args := #[] }], W1, { target := .fn (.func 231) lb, args := #[.func (.yield (W0.heap.size + 1)) #[] #[]] }, W1, 231,
    #[.func (.yield (W0.heap.size + 1)) #[] #[]] ++ lb, W1, ?_, ?_, ?_, ?_, fun _ => h1, ?_⟩
  · rw [<- hW1]; exact run_enterLoop_outer _ _ _ _ _
  · simp [resolve, go_sem]
  · intro f' hf'; simp [Target.leads] at hf'; subst hf'; trivial
  · simp [invoke, go_sem, qp9]
  · refine (hseq (W0.heap.size + 1) (ApD w fn (.func (.func 231) #[] lb) w.heap.size (W0.heap.size + 1) W0.heap.size) W1 hb1 (qmq _ _ _ _ _ _ _ hb1.size)
      (fun pre x W hJ hl => qwe (n - 1 - 1) w fn _ w.heap.size (W0.heap.size + 1) W0.heap.size (by omega) (by omega) (by omega) (Nat.le_refl _) (by omega) N hN pre x W hJ hl) hM).mono ?_
    rintro e W2 ⟨⟨v0, rfl⟩, ss, hS, h2⟩; obtain ⟨v, hv, hrow⟩ := h2.box; have hend := run_endLoop (P := Tryz.prog) h2.L (by simp [qfV]); obtain ⟨W3, hW3⟩ : ∃ W3, W2.putObj (W0.heap.size + 1) (.loop { qfV fn (.func (.func 231) #[] lb) w.heap.size W0.heap.size .ready none with state := .exhausted }) = W3 := ⟨_, rfl⟩; rw [hW3] at hend; have hne : ∀ cur : Array Value, Obj.cells #[v] 40 (0, 0) ≠ .cells cur 35 (0, 0) := fun cur e => by
      have := (Obj.cells.inj e).2.1; exact absurd this (by decide)
    have hg3 : W2.grownBy W3 (some (W0.heap.size + 1)) := by rw [<- hW3]; exact grownBy_putObj_a _ _ _
    have hv3 : W3.heap[w.heap.size]? = some (.cells #[v] 40 (0, 0)) := by rw [<- hW3]; exact (World.putObj_heap_other (by omega)).trans hv
    have hK3 : W3.heap[W0.heap.size]? = some (.deferred (some [])) := by rw [<- hW3]; exact (World.putObj_heap_other (by omega)).trans h2.K
    have hrow3 := hrow.kept hg3 (ownsRow_ne_a hrow h2.L (fun cur e => by cases e)); have hb3 : Below w.heap.size w W3 := h2.below.grown hg3 h2.below.size (fun k e => by cases e; omega); obtain ⟨hc3, hf3⟩ := cell_of_box_a hv3; clear hW3; refine ⟨none, W3, hend, ?_⟩; gi_wp2
    rw [<- hs0]; refine ⟨by simp, .inl ⟨_, _, rfl, run_takeDeferred hK3, ?_⟩⟩; exact ⟨_, results_tmp rfl _ _ _, v, ss, rfl, hS, hrow3.kept (grownBy_putObj_a _ _ _) (ownsRow_ne_a hrow3 hK3 (fun cur e => by cases e)), hb3.grown (grownBy_putObj_a _ _ _) hb3.size (fun k e => by cases e; omega)⟩
theorem qwh (n : Nat) (hn : 3 <= n) (lb : Array Value) (S : List CDot -> Prop) (N : Nat) (hN : N <= 1000000) (w : World) (hseq : SeqGives Fence.wide (n - 1 - 1) Tryz.prog 231 lb encD S N w) :
  CallsIn Fence.wide n Tryz.prog 229 #[.func (.func 231) #[] lb] w fun e w' => ∃ (v : Value) (ss : List CDot), e = .returned v /\ S ss /\ w'.ownsRow w.heap.size 35 3 v ss.length (qas ss) /\ Below w.heap.size w w' := by
 have h1 : 1 <= n := by omega
 refine callsIn_of_wp Tryz.func229 rfl trivial ?_ rfl; simp only [Tryz.ntmps229, List.size_toArray, List.length_cons, List.length_nil, Nat.reduceAdd, Nat.reduceSub, Array.replicate_succ, Array.replicate_zero, List.push_toArray, List.append_toArray, List.nil_append, List.cons_append]; have hf253 : Fence.wide.fn 253 := trivial; have hs := qv4 (n - 1) (by omega) lb S N hN w hseq; gi_wp2_with (gi_at_call 253; refine hs.mono ?_; rintro e w' ⟨v, ss, rfl, hS, hrow, hb⟩)
 go_ret; exact ⟨v, ss, rfl, hS, hrow, hb⟩
end Go.Proofs
namespace Go.Proofs
open Go.Shelf
def zz38 : Go.Shelf.Ren := ⟨fun | 6 => 230 | 15 => 159 | 14 => 254 | 28 => 193 | 29 => 194 | 20 => 259 | 21 => 260 | 22 => 261 | 23 => 262 | 24 => 263 | 25 => 264 | 26 => 265 | 27 => 266 | 46 => 267 | 47 => 233 | 48 => 234 | 49 => 268 | 50 => 269 | 57 => 270 | n => n, fun | 22 => 40 | 24 => 35 | 25 => 197 | 3 => 3 | 39 => 187 | 0 => 0 | 53 => 215 | 55 => 217 | 4 => 4 | 46 => 209 | 45 => 208 | 50 => 153 | 5 => 5 | 9 => 9 | 66 => 235 | 70 => 239 | 76 => 251 | 77 => 252 | n => n, fun | n => n⟩
theorem qwn : Go.Proofs.SlLaysF0.n6 Tryz.prog zz38 := {
 mixed := by kernel_rfl
 f6 := ⟨Tryz.f230.name, by decide, Tryz.func230.trans (congrArg some (by kernel_rfl))⟩
 f14 := ⟨Tryz.f254.name, by decide, Tryz.func254.trans (congrArg some (by kernel_rfl))⟩
 f15 := Tryz.func159.trans (congrArg some (by kernel_rfl))
 f20 := ⟨Tryz.f259.name, by decide, Tryz.func259.trans (congrArg some (by kernel_rfl))⟩
 f21 := ⟨Tryz.f260.name, by decide, Tryz.func260.trans (congrArg some (by kernel_rfl))⟩
 f22 := ⟨Tryz.f261.name, by decide, Tryz.func261.trans (congrArg some (by kernel_rfl))⟩
 f23 := ⟨Tryz.f262.name, by decide, Tryz.func262.trans (congrArg some (by kernel_rfl))⟩
 f24 := ⟨Tryz.f263.name, by decide, Tryz.func263.trans (congrArg some (by kernel_rfl))⟩
 f25 := ⟨Tryz.f264.name, by decide, Tryz.func264.trans (congrArg some (by kernel_rfl))⟩
 f26 := ⟨Tryz.f265.name, by decide, Tryz.func265.trans (congrArg some (by kernel_rfl))⟩
 f27 := ⟨Tryz.f266.name, by decide, Tryz.func266.trans (congrArg some (by kernel_rfl))⟩
 f28 := Tryz.func193.trans (congrArg some (by kernel_rfl))
 f29 := Tryz.func194.trans (congrArg some (by kernel_rfl))
 f46 := ⟨Tryz.f267.name, by decide, Tryz.func267.trans (congrArg some (by kernel_rfl))⟩
 f47 := Tryz.func233.trans (congrArg some (by kernel_rfl))
 f48 := Tryz.func234.trans (congrArg some (by kernel_rfl))
 f49 := ⟨Tryz.f268.name, by decide, Tryz.func268.trans (congrArg some (by kernel_rfl))⟩
 f50 := ⟨Tryz.f269.name, by decide, Tryz.func269.trans (congrArg some (by kernel_rfl))⟩
 f57 := ⟨Tryz.f270.name, by decide, Tryz.func270.trans (congrArg some (by kernel_rfl))⟩
 t0 := Tryz.underlying0
 a0 := Tryz.isAgg0
 z0 := Tryz.sizeOf0
 v0 := Tryz.zeroValue0
 t3 := Tryz.underlying3
 a3 := Tryz.isAgg3
 z3 := Tryz.sizeOf3
 v3 := Tryz.zeroValue3
 t4 := Tryz.underlying4
 a4 := Tryz.isAgg4
 z4 := Tryz.sizeOf4
 v4 := Tryz.zeroValue4
 t5 := Tryz.underlying5
 a5 := Tryz.isAgg5
 z5 := Tryz.sizeOf5
 v5 := Tryz.zeroValue5
 t9 := Tryz.underlying9
 a9 := Tryz.isAgg9
 z9 := Tryz.sizeOf9
 v9 := Tryz.zeroValue9
 t22 := Tryz.underlying40
 a22 := Tryz.isAgg40
 z22 := Tryz.sizeOf40
 v22 := Tryz.zeroValue40
 t25 := Tryz.underlying197
 a25 := Tryz.isAgg197
 z25 := Tryz.sizeOf197
 v25 := Tryz.zeroValue197
 t39 := Tryz.underlying187
 a39 := Tryz.isAgg187
 z39 := Tryz.sizeOf187
 v39 := Tryz.zeroValue187
 t45 := Tryz.underlying208
 a45 := Tryz.isAgg208
 z45 := Tryz.sizeOf208
 v45 := Tryz.zeroValue208
 t46 := Tryz.underlying209
 a46 := Tryz.isAgg209
 z46 := Tryz.sizeOf209
 v46 := Tryz.zeroValue209
 t50 := Tryz.underlying153
 a50 := Tryz.isAgg153
 z50 := Tryz.sizeOf153
 v50 := Tryz.zeroValue153
 t53 := Tryz.underlying215
 a53 := Tryz.isAgg215
 z53 := Tryz.sizeOf215
 v53 := Tryz.zeroValue215
 t55 := Tryz.underlying217
 a55 := Tryz.isAgg217
 z55 := Tryz.sizeOf217
 v55 := Tryz.zeroValue217
 t66 := Tryz.underlying235
 a66 := Tryz.isAgg235
 z66 := Tryz.sizeOf235
 v66 := Tryz.zeroValue235
 t70 := Tryz.underlying239
 a70 := Tryz.isAgg239
 z70 := Tryz.sizeOf239
 v70 := Tryz.zeroValue239
 t76 := Tryz.underlying251
 a76 := Tryz.isAgg251
 z76 := Tryz.sizeOf251
 v76 := Tryz.zeroValue251
 t77 := Tryz.underlying252
 a77 := Tryz.isAgg252
 z77 := Tryz.sizeOf252
 v77 := Tryz.zeroValue252 }
def zz37 : Go.Shelf.Ren := ⟨fun | 6 => 122 | 15 => 159 | 14 => 158 | 28 => 193 | 29 => 194 | 20 => 185 | 21 => 186 | 22 => 187 | 23 => 188 | 24 => 189 | 25 => 190 | 26 => 191 | 27 => 192 | 46 => 232 | 47 => 233 | 48 => 234 | 49 => 235 | 50 => 236 | 57 => 255 | n => n, fun | 22 => 160 | 24 => 24 | 25 => 162 | 3 => 3 | 39 => 187 | 0 => 0 | 53 => 215 | 55 => 217 | 4 => 4 | 46 => 209 | 45 => 208 | 50 => 153 | 5 => 5 | 9 => 9 | 66 => 235 | 70 => 239 | 76 => 251 | 77 => 252 | n => n, fun | n => n⟩
theorem qwm : Go.Proofs.SlLaysF0.n6 Tryz.prog zz37 := {
 mixed := by kernel_rfl
 f6 := ⟨Tryz.f122.name, by decide, Tryz.func122.trans (congrArg some (by kernel_rfl))⟩
 f14 := ⟨Tryz.f158.name, by decide, Tryz.func158.trans (congrArg some (by kernel_rfl))⟩
 f15 := Tryz.func159.trans (congrArg some (by kernel_rfl))
 f20 := ⟨Tryz.f185.name, by decide, Tryz.func185.trans (congrArg some (by kernel_rfl))⟩
 f21 := ⟨Tryz.f186.name, by decide, Tryz.func186.trans (congrArg some (by kernel_rfl))⟩
 f22 := ⟨Tryz.f187.name, by decide, Tryz.func187.trans (congrArg some (by kernel_rfl))⟩
 f23 := ⟨Tryz.f188.name, by decide, Tryz.func188.trans (congrArg some (by kernel_rfl))⟩
 f24 := ⟨Tryz.f189.name, by decide, Tryz.func189.trans (congrArg some (by kernel_rfl))⟩
 f25 := ⟨Tryz.f190.name, by decide, Tryz.func190.trans (congrArg some (by kernel_rfl))⟩
 f26 := ⟨Tryz.f191.name, by decide, Tryz.func191.trans (congrArg some (by kernel_rfl))⟩
 f27 := ⟨Tryz.f192.name, by decide, Tryz.func192.trans (congrArg some (by kernel_rfl))⟩
 f28 := Tryz.func193.trans (congrArg some (by kernel_rfl))
 f29 := Tryz.func194.trans (congrArg some (by kernel_rfl))
 f46 := ⟨Tryz.f232.name, by decide, Tryz.func232.trans (congrArg some (by kernel_rfl))⟩
 f47 := Tryz.func233.trans (congrArg some (by kernel_rfl))
 f48 := Tryz.func234.trans (congrArg some (by kernel_rfl))
 f49 := ⟨Tryz.f235.name, by decide, Tryz.func235.trans (congrArg some (by kernel_rfl))⟩
 f50 := ⟨Tryz.f236.name, by decide, Tryz.func236.trans (congrArg some (by kernel_rfl))⟩
 f57 := ⟨Tryz.f255.name, by decide, Tryz.func255.trans (congrArg some (by kernel_rfl))⟩
 t0 := Tryz.underlying0
 a0 := Tryz.isAgg0
 z0 := Tryz.sizeOf0
 v0 := Tryz.zeroValue0
 t3 := Tryz.underlying3
 a3 := Tryz.isAgg3
 z3 := Tryz.sizeOf3
 v3 := Tryz.zeroValue3
 t4 := Tryz.underlying4
 a4 := Tryz.isAgg4
 z4 := Tryz.sizeOf4
 v4 := Tryz.zeroValue4
 t5 := Tryz.underlying5
 a5 := Tryz.isAgg5
 z5 := Tryz.sizeOf5
 v5 := Tryz.zeroValue5
 t9 := Tryz.underlying9
 a9 := Tryz.isAgg9
 z9 := Tryz.sizeOf9
 v9 := Tryz.zeroValue9
 t22 := Tryz.underlying160
 a22 := Tryz.isAgg160
 z22 := Tryz.sizeOf160
 v22 := Tryz.zeroValue160
 t25 := Tryz.underlying162
 a25 := Tryz.isAgg162
 z25 := Tryz.sizeOf162
 v25 := Tryz.zeroValue162
 t39 := Tryz.underlying187
 a39 := Tryz.isAgg187
 z39 := Tryz.sizeOf187
 v39 := Tryz.zeroValue187
 t45 := Tryz.underlying208
 a45 := Tryz.isAgg208
 z45 := Tryz.sizeOf208
 v45 := Tryz.zeroValue208
 t46 := Tryz.underlying209
 a46 := Tryz.isAgg209
 z46 := Tryz.sizeOf209
 v46 := Tryz.zeroValue209
 t50 := Tryz.underlying153
 a50 := Tryz.isAgg153
 z50 := Tryz.sizeOf153
 v50 := Tryz.zeroValue153
 t53 := Tryz.underlying215
 a53 := Tryz.isAgg215
 z53 := Tryz.sizeOf215
 v53 := Tryz.zeroValue215
 t55 := Tryz.underlying217
 a55 := Tryz.isAgg217
 z55 := Tryz.sizeOf217
 v55 := Tryz.zeroValue217
 t66 := Tryz.underlying235
 a66 := Tryz.isAgg235
 z66 := Tryz.sizeOf235
 v66 := Tryz.zeroValue235
 t70 := Tryz.underlying239
 a70 := Tryz.isAgg239
 z70 := Tryz.sizeOf239
 v70 := Tryz.zeroValue239
 t76 := Tryz.underlying251
 a76 := Tryz.isAgg251
 z76 := Tryz.sizeOf251
 v76 := Tryz.zeroValue251
 t77 := Tryz.underlying252
 a77 := Tryz.isAgg252
 z77 := Tryz.sizeOf252
 v77 := Tryz.zeroValue252 }
end Go.Proofs
set_option maxHeartbeats 2000000
namespace Go.Proofs
open Go Go.Am Go.RowKit Go.Sy Go.Gm Go.Maps Go.Sort Go.Shelf
theorem qof {w w' : World} (h : Below w.heap.size w w') (hd : w.drawn <= w'.drawn) : ∃ q os, w' = grow (w.drewN q) os := by
 refine ⟨w'.drawn - w.drawn, w'.heap.extract w.heap.size w'.heap.size, ?_⟩; unfold grow World.drewN
 cases w' with
 | mk heap tape drawn os output =>
  obtain ⟨h1, h2, h3, h4, h5⟩ := h; simp only at h1 h2 h3 h4 h5 hd ⊢; subst h1; subst h2; subst h3; congr 1
  · apply Array.ext_getElem?
    intro i; rw [Array.getElem?_append]; split
    · rename_i hi; exact h5 i hi
    · rename_i hi; rw [Array.getElem?_extract]; by_cases h6 : i < heap.size
      · simp only [Nat.min_self]; rw [if_pos (by omega), show w.heap.size + (i - w.heap.size) = i by omega]
      · rw [if_neg (by omega), Array.getElem?_eq_none (by omega)]
  · omega
def qdw (x : CDot) : List Value := [.int .i64 x.dev, .int .i64 x.inc, .int .i64 x.seq]
def qdd (x : CKey) : List Value := [.string ⟨x.name.toArray⟩, .string ⟨x.domain.toArray⟩, .string ⟨x.path.toArray⟩]
def qcN (x y : CKey) : Int := if qa2 x y then -1 else 1
section
variable [Inhabited DrP]
theorem qs2 : CO zz70 qpw := qae (C := qpw) (cfg := fun y => cfgE qif (qaQ y)) zz1 (fun _ => rfl) (fun _ => qcE) (n := 400) (by
 rintro ⟨x, y⟩ -
 (conv => whnf)
 refine ⟨(x, y), ?_⟩
 repeat' (first | exact trivial | exact rfl | ((conv => whnf); first | refine brI (fun _ => ?_) fun _ => ?_ | refine And.intro ?_ ?_)))
def qnG : Con := { Y := CKey × CKey, pre := fun _ => True, args := fun y => [.agg y.1.enc, .agg y.2.enc], res := fun y => i64 (qcN y.1 y.2) }
theorem quJ : CO zz9 qnG := qae (C := qnG) (cfg := fun y => cfgE qif (qaQ y)) zz1 (fun _ => rfl) (fun _ => qcE) (n := 400) (by
 rintro ⟨x, y⟩ -
 (conv => whnf)
 refine ⟨(x, y), ?_⟩
 repeat ((conv => whnf); first | refine ⟨rfl, ?_⟩ | refine ⟨trivial, ?_⟩)
 repeat' (first | exact trivial | exact rfl | ((conv => whnf); first | refine brI (fun _ => ?_) fun _ => ?_ | refine And.intro ?_ ?_))
 all_goals (simp_all [qcN]))
end
theorem qtd : SWO (ltOf qec) where
 irrefl x := by
  have := @qb4 ⟨⟨True, #[]⟩⟩ x; exact this
 trans x y z h1 h2 := @qch ⟨⟨True, #[]⟩⟩ x y z h1 h2
 ntrans x y z h1 h2 := by
  letI : Inhabited DrP := ⟨⟨True, #[]⟩⟩
  have h1 : ¬ qac x y = true := by rw [Bool.not_eq_true]; exact h1
  have h2 : ¬ qac y z = true := by rw [Bool.not_eq_true]; exact h2
  show qac x z = false
  rw [<- Bool.not_eq_true]; rw [qcr] at *; omega
theorem qgb (x y : CKey) : ltOf qcN x y = qa2 x y := by
 unfold ltOf qcN
 cases qa2 x y <;> simp
theorem qte : SWO (ltOf qcN) where
 irrefl x := by
  letI : Inhabited DrP := ⟨⟨True, #[]⟩⟩
  rw [qgb]; exact qcO x
 trans x y z h1 h2 := by
  letI : Inhabited DrP := ⟨⟨True, #[]⟩⟩
  rw [qgb] at *; exact qbM x y z h1 h2
 ntrans x y z h1 h2 := by
  letI : Inhabited DrP := ⟨⟨True, #[]⟩⟩
  rw [qgb] at *; rcases qde x y with h | h | h
  · rw [h] at h1; cases h1
  · subst h; exact h2
  · rcases qde y z with k | k | k
    · rw [k] at h2; cases h2
    · subst k; exact h1
    · cases hz : qa2 x z with
      | false => rfl
      | true =>
       have h3 := qbM z y x k h; have h4 := qbM x z x hz h3; rw [qcO] at h4; cases h4
theorem qmi {Fz : Nat -> Option AO} {n : Nat} (x : CDot) [Inhabited DrP] : SimP Fz (.agg x.enc) (absA n (.agg (qdw x).toArray)) := qkR [x.dev, x.inc, x.seq]
theorem qiL {Fz : Nat -> Option AO} {n : Nat} (k : CKey) [Inhabited DrP] : SimP Fz (.agg k.enc) (absA n (.agg (qdd k).toArray)) := by
 unfold absA; refine .agg rfl fun i c v hc hv => ?_
 have hj : i < 3 := (List.getElem?_eq_some_iff.1 hc).1; unfold CKey.enc at hc; match i, hj with
 | 0, _ | 1, _ | 2, _ => cases hc; cases hv; exact .str _
theorem qwx (blk off size : Nat) (w : World) : CmpLays Tryz.prog 184 #[] qdw 3 qec blk off size w := by
 intro m os dk _ x y; letI : Inhabited DrP := ⟨⟨True, #[]⟩⟩
 have h := zz88 zz1.ok qs2 (fn := Tryz.f184) (hfn := by kernel_rfl) (hb := rfl) (y := (x, y)) trivial (args := [.agg (qdw x).toArray, .agg (qdw y).toArray]) (w := sortWorldK qdw 3 w blk off m dk os) (PL.cons (qmi x) (PL.cons (qmi y) PL.nil)) (OldW.of0 rfl _); refine Calls.mono h ?_; rintro e w' ⟨v, rfl, hv, hbel, hd⟩; have hv : v = .int .i64 (qec x y) := qbd hv; exact ⟨by rw [hv], qof hbel (hd trivial)⟩
theorem qww (blk off size : Nat) (w : World) : CmpLays Tryz.prog 123 #[] qdd 3 qcN blk off size w := by
 intro m os dk _ x y; letI : Inhabited DrP := ⟨⟨True, #[]⟩⟩
 have h := zz88 zz1.ok quJ (fn := Tryz.f123) (hfn := by kernel_rfl) (hb := rfl) (y := (x, y)) trivial (args := [.agg (qdd x).toArray, .agg (qdd y).toArray]) (w := sortWorldK qdd 3 w blk off m dk os) (PL.cons (qiL x) (PL.cons (qiL y) PL.nil)) (OldW.of0 rfl _); refine Calls.mono h ?_; rintro e w' ⟨v, rfl, hv, hbel, hd⟩; have hv : v = .int .i64 (qcN x y) := qbd hv; exact ⟨by rw [hv], qof hbel (hd trivial)⟩
theorem qw7 : ∀ w, (isAgg (zz38.t 24)).run Tryz.prog w = .ok true w := fun w => by kernel_rfl
theorem qwL : ∀ w, (Go.sizeOf (zz38.t 24)).run Tryz.prog w = .ok 3 w := fun w => by kernel_rfl
theorem qxa : ∀ w, (isAgg (zz37.t 24)).run Tryz.prog w = .ok true w := fun w => by kernel_rfl
theorem qwO : ∀ w, (Go.sizeOf (zz37.t 24)).run Tryz.prog w = .ok 3 w := fun w => by kernel_rfl
theorem dOne (x : CDot) : ∀ v ∈ qdw x, v.oneCell' = true := by
 intro v hv; simp only [qdw, List.mem_cons, List.not_mem_nil, or_false] at hv; rcases hv with rfl | rfl | rfl <;> rfl
theorem kOne (x : CKey) : ∀ v ∈ qdd x, v.oneCell' = true := by
 intro v hv; simp only [qdd, List.mem_cons, List.not_mem_nil, or_false] at hv; rcases hv with rfl | rfl | rfl <;> rfl
theorem qwU (blk off cap : Nat) (d : Array CDot) (w : World) (hH : HoldsK qdw 3 w blk off d) (hblk : blk < w.heap.size) (hsz : d.size < 4611686018427387904) :
  Calls Tryz.prog 230 #[.slice (some ⟨blk, off, none⟩) d.size cap, .func (.func 184) #[] #[]] w fun e w' => e = .returned (.tuple #[]) /\ ∃ d' n os, PermIn 0 d.size d d' /\ SortedIn (ltOf qec) 0 d.size d' /\ w' = sortWorldK qdw 3 w blk off n d' os :=
 AnyQ.slices_SortFunc qwn 3 qw7 qwL qdw (fun _ => rfl) dOne qec qtd 184 #[] blk off cap d w (enters_of Tryz.func184 (by kernel_rfl) rfl) (qwx blk off d.size w) hH hblk hsz
theorem qwV (blk off cap : Nat) (d : Array CKey) (w : World) (hH : HoldsK qdd 3 w blk off d) (hblk : blk < w.heap.size) (hsz : d.size < 4611686018427387904) :
  Calls Tryz.prog 122 #[.slice (some ⟨blk, off, none⟩) d.size cap, .func (.func 123) #[] #[]] w fun e w' => e = .returned (.tuple #[]) /\ ∃ d' n os, PermIn 0 d.size d d' /\ SortedIn (ltOf qcN) 0 d.size d' /\ w' = sortWorldK qdd 3 w blk off n d' os :=
 AnyQ.slices_SortFunc qwm 3 qxa qwO qdd (fun _ => rfl) kOne qcN qte 123 #[] blk off cap d w (enters_of Tryz.func123 (by kernel_rfl) rfl) (qww blk off d.size w) hH hblk hsz
end Go.Proofs
set_option maxHeartbeats 4000000
namespace Go.Proofs
open Go Go.Am Go.RowKit Go.Sy Go.Gm Go.Maps Go.Sort Go.Shelf
section
variable [Inhabited DrP]
def qlm (g : FuncId) : Con := { Y := Unit, pre := fun _ => True, args := fun _ => [.nils, .fn g [] []], res := fun _ => .tup [] }
theorem qs1 : CO zz81 (qlm zz70) := qae (C := qlm zz70) (cfg := fun y => cfgE qif (qaQ y)) zz1 (fun _ => rfl) (fun _ => qcE) (n := 3000) (by
 rintro ⟨⟩ -
 (conv => whnf)
 trivial)
theorem qqR : CO zz82 (qlm zz9) := qae (C := qlm zz9) (cfg := fun y => cfgE qif (qaQ y)) zz1 (fun _ => rfl) (fun _ => qcE) (n := 3000) (by
 rintro ⟨⟩ -
 (conv => whnf)
 trivial)
end
theorem qja [Inhabited DrP] {P : Program} {tab : Tab} (ok : TabOK P tab) {f : FuncId} {C : Con} (hc : Go.Sy.ConOK P tab f C) {fn : Func} {body : Code} (hfn : tab.fns.get f = some fn) (hb : fn.body = some body) {y : C.Y} (hy : C.pre y) {args : List Value} {avs : List AV} (hconc : ∀ E, qai E avs = args) {w : World}
  (hs : PL (rowH tab w).get (C.args y) avs) (hw : OldW w) : Calls P f args.toArray w (fun e w' => ∃ v, e = .returned v /\ Rd w' (fun _ => True) true (C.res y) v /\ Below w.heap.size w w' /\ ((default : DrP).dr -> w.drawn <= w'.drawn)) := by
 intro cs; have hP := ok.fns f fn hfn; have hdom : ∀ i o, (rowH tab w).get i = some o -> i < (rowH tab w).next := fun i o hi => (qes tab w (E := ⟨fun i => i, fun _ => 0⟩) (fun _ _ => rfl)).dom i o hi
 let E : Env := ⟨fun i => i, fun _ => 0⟩
 let D : Nat -> Prop := fun i => i < w.heap.size
 have hag : ∀ E', Agree D E E' -> ∀ i, i < w.heap.size -> E'.blk i = i := fun E' he i hi => (he i hi).1
 have hR : Rel D E (KS.old w.heap.size) { fr := AFrame.enter fn f body avs .normal, cs := [], h := rowH tab w } cs (Frame.enter P f args.toArray .normal) cs w := by
  refine ⟨fun E' he => ⟨qes tab w (hag E' he), ?_, rfl⟩, fun i h => h, qdY _ _ _ _ _, fun f hf => by cases hf⟩; rw [<- qbi hP hb, hconc]
 obtain ⟨v, h', ⟨Fz', _, f2, hsim, _⟩, fr', w', v', E', D', s1, s2, s3, s4, s5, s6, s7, s8, s9, s10⟩ := hc fn body hfn hb y hy (rowH tab w).get (rowH tab w) _ (fun _ _ h => h) hdom hs.1 hs.2 D E _ cs _ cs w hR hw.based; obtain ⟨g1, g2⟩ := s4 E' (Agree.refl _ _); subst g2; exact ⟨.returned (conc E' v), w', fr', ⟨_, rfl, qe9 g1 f2 hsim, ⟨s8.os, s8.tape, s8.output, s8.size, s8.block⟩, s8.drawn⟩, s1, s2, s3⟩
theorem qoN [Inhabited DrP] {w : World} {p : Nat -> Prop} {g : Bool} {v : Value} (h : Rd w p g (.tup []) v) : v = .tuple #[] := by
 cases h with
 | @tup cs vs h1 h2 =>
  obtain ⟨l⟩ := vs; match l, h1 with
  | [], _ => rfl
theorem qwT (w : World) : Calls Tryz.prog 230 #[.slice none 0 0, .func (.func 184) #[] #[]] w fun e w' => e = .returned (.tuple #[]) /\ Below w.heap.size w w' := by
 letI : Inhabited DrP := ⟨⟨True, #[]⟩⟩
 refine Calls.mono (qja zz1.ok qs1 (fn := Tryz.f230) (hfn := rfl) (hb := rfl) (y := ()) trivial (args := [.slice none 0 0, .func (.func 184) #[] #[]]) (avs := [.nils, .fn (.func 184) [] []]) (fun E => by simp [conc]) (w := w) (PL.cons .nils (PL.cons (.fn (xs := []) (ys := []) (us := []) (vs := []) rfl rfl (fun i x u h => (by simp at h)) (fun i x u h => (by simp at h))) PL.nil)) (OldW.of0 rfl _)) ?_; rintro e w' ⟨v, rfl, hv, hb, _⟩; exact ⟨by rw [qoN hv], hb⟩
theorem qwF (w : World) : Calls Tryz.prog 122 #[.slice none 0 0, .func (.func 123) #[] #[]] w fun e w' => e = .returned (.tuple #[]) /\ Below w.heap.size w w' := by
 letI : Inhabited DrP := ⟨⟨True, #[]⟩⟩
 refine Calls.mono (qja zz1.ok qqR (fn := Tryz.f122) (hfn := rfl) (hb := rfl) (y := ()) trivial (args := [.slice none 0 0, .func (.func 123) #[] #[]]) (avs := [.nils, .fn (.func 123) [] []]) (fun E => by simp [conc]) (w := w) (PL.cons .nils (PL.cons (.fn (xs := []) (ys := []) (us := []) (vs := []) rfl rfl (fun i x u h => (by simp at h)) (fun i x u h => (by simp at h))) PL.nil)) (OldW.of0 rfl _)) ?_; rintro e w' ⟨v, rfl, hv, hb, _⟩; exact ⟨by rw [qoN hv], hb⟩
end Go.Proofs
set_option maxHeartbeats 2000000
namespace Go.Gm
open Go Go.RowKit Go.Maps Go.Proofs Go.ChangeMaps
variable {P : Program} {K V : Type} [DecidableEq K]
theorem qjm {es : List MapEntry} (hs : (es.map (·.born)).Pairwise (· < ·)) {j : Nat} (hj : j < es.length) {n : Nat} (hn : es[j].born = n) : es.findIdx? (fun e => ((e.born : Int) == (n : Int))) = some j := by
 rw [List.findIdx?_eq_some_iff_getElem]; refine ⟨hj, by simp [hn], fun i hi => ?_⟩; have hp := List.pairwise_iff_getElem.1 hs i j (by simp; omega) (by simpa using hj) hi; simp only [List.getElem_map] at hp; simp; omega
theorem qeR {es : Array MapEntry} (hs : (es.toList.map (·.born)).Pairwise (· < ·)) {j : Nat} (hj : j < es.size) {n : Nat} (hn : es[j].born = n) : es.findIdx? (fun e => ((e.born : Int) == (n : Int))) = some j := by
 obtain ⟨l⟩ := es; rw [List.findIdx?_toArray]; exact qjm hs hj hn
theorem MapIs.entry {w : World} {b : Nat} {enc : K -> Value} {encV : V -> Value} {L : List (K × V)} (h : MapIs w b enc encV L) {T Te t : TypeId} (hK : KeyLaw P T enc) (ht : P.underlying t = some (.map T Te)) {z : V} (hz : ∀ w : World, (zeroValue Te).run P w = .ok (encV z) w) (k : K) (val : V) :
  ∃ (v : Value) (n : Nat) (o o' : Obj), (Instr.mapEntry t (.map (some b)) (enc k)).run P w = .ok (.tuple #[v, goInt n]) (World.setO w b o) /\ (Instr.entryStore t (.map (some b)) (goInt n) (encV val)).run P (World.setO w b o) = .ok () (World.setO (World.setO w b o) b o') /\ qcW (World.setO w b o) b /\
    MapIs (World.setO (World.setO w b o) b o') b enc encV (qaq L k val) /\ (MapIs (World.setO w b o) b enc encV L \/ k ∉ L.map (·.1) /\ MapIs (World.setO w b o) b enc encV (L ++ [(k, z)])) := by
 obtain ⟨⟨es, clk, hb, hr, hs, hc⟩, hnd⟩ := h; have hf := qbU hK k w es.toList L hr; have hgo : (getObj b).run P w = .ok (.map es clk) w := by simp [getObj, Sem.run, hb]
 cases e : qdx k encV L 0 with
 | none =>
  have hk := idx_none.1 e; have h1 : (Instr.mapEntry t (.map (some b)) (enc k)).run P w = .ok (.tuple #[encV z, goInt clk]) (World.setO w b (.map (es.push ⟨enc k, encV z, clk⟩) (clk + 1))) := by
    unfold Instr.mapEntry; simp only [Sem.run_bind, run_underlying ht, Result.andThen_ok, hgo, hK.chk, hf, e, hz, qcI hb, Sem.run_pure]
  have hb1 : (World.setO w b (.map (es.push ⟨enc k, encV z, clk⟩) (clk + 1))).heap[b]? = some (.map (es.push ⟨enc k, encV z, clk⟩) (clk + 1)) := by rw [qbP hb, if_pos rfl]
  have hgo1 : (getObj b).run P (World.setO w b (.map (es.push ⟨enc k, encV z, clk⟩) (clk + 1))) = .ok (.map (es.push ⟨enc k, encV z, clk⟩) (clk + 1)) (World.setO w b (.map (es.push ⟨enc k, encV z, clk⟩) (clk + 1))) := by simp [getObj, Sem.run, hb1]
  have hbig : (((es.push ⟨enc k, encV z, clk⟩).toList.map (·.born)).Pairwise (· < ·)) := by
    rw [Array.toList_push, List.map_append, List.pairwise_append]; refine ⟨hs, by simp, fun a ha c hc' => ?_⟩; obtain ⟨x, hx, rfl⟩ := List.mem_map.1 ha; simp at hc'; subst hc'; exact hc x hx
  have hfi : (es.push ⟨enc k, encV z, clk⟩).findIdx? (fun e => ((e.born : Int) == (clk : Int))) = some es.size := by
    exact qeR hbig (j := es.size) (by simp) (by simp)
  have h2 : ∀ x : Value, (Instr.entryStore t (.map (some b)) (goInt clk) x).run P (World.setO w b (.map (es.push ⟨enc k, encV z, clk⟩) (clk + 1))) = .ok () (World.setO (World.setO w b (.map (es.push ⟨enc k, encV z, clk⟩) (clk + 1))) b (.map ((es.push ⟨enc k, encV z, clk⟩).modify es.size fun e => { e with val := x }) (clk + 1))) := fun x => by
    unfold Instr.entryStore; simp only [Sem.run_bind, hgo1, Result.andThen_ok, asInt, asIntOf, goInt, Sem.run_pure, hfi, qcI hb1]
  have hmod : ((es.push ⟨enc k, encV z, clk⟩).modify es.size fun e => { e with val := encV val }).toList = es.toList ++ [⟨enc k, encV val, clk⟩] := by
    rw [Array.toList_modify, Array.toList_push]; apply List.ext_getElem?
    intro i; rw [List.getElem?_modify]; by_cases hi : es.size = i
    · subst hi; simp [<- Array.length_toList]
    · rcases Nat.lt_or_ge i es.size with h' | h'
      · simp [hi, List.getElem?_append_left, h']
      · obtain ⟨m, hm⟩ : ∃ m, i - es.size = m + 1 := ⟨i - es.size - 1, by omega⟩; simp [hi, List.getElem?_append_right, h', hm]
  refine ⟨_, clk, _, _, h1, h2 (encV val), ⟨_, _, hb1⟩, ⟨⟨_, _, by rw [qbP hb1, if_pos rfl], ?_, ?_, ?_⟩, qdM hnd k val⟩, .inr ⟨hk, ⟨_, _, hb1, ?_, hbig, ?_⟩, ?_⟩⟩
  · unfold qaq Rep; rw [if_neg hk, hmod, List.map_append, List.map_append, hr]; rfl
  · rw [hmod, List.map_append, List.pairwise_append]; refine ⟨hs, by simp, fun a ha c hc' => ?_⟩; obtain ⟨x, hx, rfl⟩ := List.mem_map.1 ha; simp at hc'; subst hc'; exact hc x hx
  · intro x hx; rw [hmod, List.mem_append] at hx; rcases hx with hx | hx
    · have := hc x hx; omega
    · simp at hx; subst hx; exact Nat.lt_succ_self _
  · unfold Rep; rw [Array.toList_push, List.map_append, List.map_append, hr]; rfl
  · intro x hx; rw [Array.toList_push, List.mem_append] at hx; rcases hx with hx | hx
    · have := hc x hx; omega
    · simp at hx; subst hx; exact Nat.lt_succ_self _
  · have := qdM hnd k z; unfold qaq at this; rwa [if_neg hk] at this
 | some q =>
  obtain ⟨j, u⟩ := q; obtain ⟨n, hj, hn, g1, g2, _⟩ := qf9 e; simp only [Nat.zero_add] at hj; subst hj; have hlen : es.size = L.length := by simpa using congrArg List.length hr
  have hn' : j < es.size := by omega
  have hkey : es[j].key = enc k := by
    have := congrArg (fun l => (l[j]?).map Prod.fst) hr; simp [hn', hn] at this; rw [this, g1]
  have hks : (Instr.keyThatStays (((es[j]?).map fun x : MapEntry => x.key).getD (enc k)) (enc k)).run P w = .ok (enc k) w := by
    simp [hn', hkey, Instr.keyThatStays, hK.bits]
  have hsame : (es.modify j fun e => { e with key := enc k }) = es := by
    apply Array.ext_getElem?
    intro i; rw [Array.getElem?_modify]; by_cases hi : j = i
    · subst hi; rw [if_pos rfl, Array.getElem?_eq_getElem hn']; simp only [Option.map_some, <- hkey]
    · rw [if_neg hi]
  have h1 : (Instr.mapEntry t (.map (some b)) (enc k)).run P w = .ok (.tuple #[u, goInt es[j].born]) (World.setO w b (.map es clk)) := by
    unfold Instr.mapEntry; simp only [Sem.run_bind, run_underlying ht, Result.andThen_ok, hgo, hK.chk, hf, e, hks, hsame, qcI hb, Sem.run_pure]; simp [hn']
  have hb1 : (World.setO w b (.map es clk)).heap[b]? = some (.map es clk) := by rw [qbP hb, if_pos rfl]
  have hgo1 : (getObj b).run P (World.setO w b (.map es clk)) = .ok (.map es clk) (World.setO w b (.map es clk)) := by simp [getObj, Sem.run, hb1]
  have hfi : es.findIdx? (fun e => ((e.born : Int) == (es[j].born : Int))) = some j := by
    exact qeR hs (j := j) hn' rfl
  have h2 : ∀ x : Value, (Instr.entryStore t (.map (some b)) (goInt es[j].born) x).run P (World.setO w b (.map es clk)) = .ok () (World.setO (World.setO w b (.map es clk)) b (.map (es.modify j fun e => { e with val := x }) clk)) := fun x => by
    unfold Instr.entryStore; simp only [Sem.run_bind, hgo1, Result.andThen_ok, asInt, asIntOf, goInt, Sem.run_pure, hfi, qcI hb1]
  have hput : qaq L k val = L.set j (k, val) := by
    have := qrF hnd hn val; rw [g1] at this; exact this
  have hborn : (es.modify j fun e => { e with val := encV val }).toList.map (·.born) = es.toList.map (·.born) := by
    apply List.ext_getElem?
    intro i; rw [List.getElem?_map, List.getElem?_map, Array.toList_modify, List.getElem?_modify]; by_cases h : j = i
    · simp [h, Function.comp_def]
    · simp [h]
  refine ⟨_, es[j].born, _, _, h1, h2 (encV val), ⟨_, _, hb1⟩, ⟨⟨_, _, by rw [qbP hb1, if_pos rfl], ?_, by rw [hborn]; exact hs, fun x hx => ?_⟩, qdM hnd k val⟩, .inl ⟨⟨_, _, hb1, hr, hs, hc⟩, hnd⟩⟩
  · rw [hput]; unfold Rep at hr ⊢; apply List.ext_getElem?
    intro i; have hri := congrArg (fun l => l[i]?) hr; simp only [List.getElem?_map] at hri ⊢; rw [Array.toList_modify, List.getElem?_modify, List.getElem?_set]; by_cases h : j = i
    · subst h; simp [hn, hn', hkey]
    · simp only [h, if_false]; simpa using hri
  · have hm : x.born ∈ (es.modify j fun e => { e with val := encV val }).toList.map (·.born) := List.mem_map.2 ⟨x, hx, rfl⟩; rw [hborn] at hm; obtain ⟨y, hy, he⟩ := List.mem_map.1 hm; rw [<- he]; exact hc y hy
end Go.Gm
set_option maxHeartbeats 4000000
namespace Go.Proofs
open Go Go.Am Go.RowKit Go.Sy Go.Gm Go.Maps Go.Sort Go.Shelf
theorem qf5 (l : List CDot) {j : Nat} (hj : j < l.length * 3) : (qas l)[j]? = some ((qdw l.toArray[j / 3]!)[j % 3]!) := by
 have hi : j / 3 < l.length := by omega
 obtain ⟨e0, e1, e2⟩ := qbT l (j / 3) hi; have hg : l.toArray[j / 3]! = l[j / 3] := by rw [getElem!_pos _ _ (by simpa using hi)]; simp
 rw [hg]; rcases (by omega : j = j / 3 * 3 \/ j = j / 3 * 3 + 1 \/ j = j / 3 * 3 + 2) with e | e | e
 · have hm : j % 3 = 0 := by omega
   rw [hm]; conv => lhs; rw [e]
   exact e0
 · have hm : j % 3 = 1 := by omega
   rw [hm]; conv => lhs; rw [e]
   exact e1
 · have hm : j % 3 = 2 := by omega
   rw [hm]; conv => lhs; rw [e]
   exact e2
theorem qrB {w : World} {g : Nat} {cur : Array Value} {l : List CDot} (hg : w.heap[g]? = some (.cells cur 35 (0, 0))) (h4 : cur.toList.take (l.length * 3) = qas l) : HoldsK qdw 3 w g 0 l.toArray := by
 intro j hj; have hj' : j < l.length * 3 := by simpa using hj
 have h2 := congrArg (fun l => l[j]?) h4; simp only [List.getElem?_take, if_pos hj', Array.getElem?_toList] at h2; rw [qf5 l hj'] at h2; constructor
 · unfold World.cell?
   simp only [hg, Option.isSome_none, Bool.false_eq_true, if_false, Nat.zero_add]; rw [h2, get_flatK qdw 3 l.toArray j (by simpa using hj')]; rfl
 · unfold World.frozen?
   simp [hg]
theorem qmG {w : World} {g : Nat} {l : List CDot} {c : Nat} (hc : l.length <= c) (h : HoldsK qdw 3 w g 0 l.toArray) : DotsV w l (.slice (some ⟨g, 0, none⟩) l.length c) := by
 by_cases h0 : l = []
 · subst h0; exact .inl ⟨rfl, _, _, rfl⟩
 have hlen : 0 < l.length := List.length_pos_iff.2 h0; have hcell : ∀ j, j < l.length * 3 -> w.cell? ⟨g, j, none⟩ = (qas l)[j]? := fun j hj => by
   have := (h j (by simpa using hj)).1; rw [Nat.zero_add] at this; rw [this, qf5 l hj, get_flatK qdw 3 l.toArray j (by simpa using hj)]; rfl
 have h1 := hcell 0 (by omega); have hb : ∃ arr e fz, w.heap[g]? = some (.cells arr e fz) := by
   rw [qf5 l (by omega)] at h1; unfold World.cell? at h1
   cases e : w.heap[g]? with
   | none => simp [e] at h1
   | some o =>
    cases o with
    | cells arr t fz => exact ⟨arr, t, fz, rfl⟩
    | _ => simp [e] at h1
 obtain ⟨arr, e, fz, hb⟩ := hb; have harr : ∀ j, j < l.length * 3 -> arr[j]? = (qas l)[j]? := fun j hj => by
   have := hcell j hj; unfold World.cell? at this; simp only [hb, Option.isSome_none, Bool.false_eq_true, if_false] at this; exact this
 refine .inr ⟨g, 0, c, arr, e, fz, rfl, hb, hc, ?_, fun i hi => ?_⟩
 · have := harr (l.length * 3 - 1) (by omega); rw [qf5 l (by omega)] at this; have := (Array.getElem?_eq_some_iff.1 this).1; omega
 · obtain ⟨e0, e1, e2⟩ := qbT l i hi; rw [Nat.zero_add]; exact ⟨(harr _ (by omega)).trans e0, (harr _ (by omega)).trans e1, (harr _ (by omega)).trans e2⟩
theorem qng {l : List CDot} (hn : l.Nodup) {d' : Array CDot} (hp : PermIn 0 l.toArray.size l.toArray d') (hs : SortedIn (ltOf qec) 0 l.toArray.size d') : d'.toList = qaP qac l /\ d'.size = l.length := by
 letI : Inhabited DrP := ⟨⟨True, #[]⟩⟩
 obtain ⟨h1, _, h3⟩ := hp; have hsz : d'.size = l.length := by simpa using h1
 have hperm : d'.toList.Perm l := by
   rw [show d'.extract 0 l.toArray.size = d' by rw [<- h1]; simp] at h3; simpa using h3
 have hnd : d'.toList.Nodup := hperm.nodup_iff.2 hn; refine ⟨qfe ?_ fun x => hperm.mem_iff, hsz⟩; rw [List.pairwise_iff_getElem]; intro i j hi hj hij; simp only [Array.length_toList] at hi hj; have := hs i j (Nat.zero_le _) hij (by simp; omega); rw [getElem!_pos d' j hj, getElem!_pos d' i hi] at this; have hlt : qac d'[j] d'[i] = false := this; have hne : d'[i] ≠ d'[j] := by
   have := List.pairwise_iff_getElem.1 hnd i j (by simpa using hi) (by simpa using hj) hij; simpa using this
 simp only [Array.getElem_toList]; rcases qeg d'[i] d'[j] with h | h | h
 · exact h
 · exact absurd h hne
 · rw [hlt] at h; cases h
theorem qkn (w : World) (g off n : Nat) (d : Array CDot) (os : Array Obj) {B : Nat} (hg : B <= g) (hB : B <= w.heap.size) : Below B w (sortWorldK qdw 3 w g off n d os) := by
 refine ⟨rfl, rfl, rfl, size_sortWorldK_c qdw 3 w g off n d os, fun k hk => ?_⟩; unfold sortWorldK grow putRowK putRow mapBlock Sort.ahead; simp only; rw [Array.getElem?_append_left (by simp; omega)]; rw [Array.getElem?_modify]; rw [if_neg (by omega)]
theorem qwb {w : World} {base : Nat} {v : Value} {l : List CDot} (hn : l.Nodup) (h : w.ownsRow base 35 3 v l.length (qas l)) (hl : l.length <= 1000000) (hbase : base <= w.heap.size) :
   Calls Tryz.prog 230 #[v, .func (.func 184) #[] #[]] w fun e w' => e = .returned (.tuple #[]) /\ DotsV w' (qaP qac l) v /\ NewD base (qaP qac l) v /\ Below base w w' := by
 rcases h.2 with ⟨rfl, h0⟩ | ⟨g, cap, cur, rfl, hbg, hg, h1, h2, h3, h4⟩
 · have hl0 : l = [] := List.length_eq_zero_iff.1 h0; subst hl0; refine (qwT w).mono ?_; rintro e w' ⟨rfl, hb⟩; exact ⟨rfl, .inl ⟨rfl, _, _, rfl⟩, .inl rfl, hb.mono hbase⟩
 · have hgl := (Array.getElem?_eq_some_iff.1 hg).1; have hs := qwU g 0 cap l.toArray w (qrB hg h4) hgl (by simp; omega); rw [show l.toArray.size = l.length by simp] at hs; refine hs.mono ?_; rintro e w' ⟨rfl, d', n, os, hp, hso, rfl⟩; obtain ⟨hd, hsz⟩ := qng hn (d' := d') (by simpa using hp) (by simpa using hso); have hH := holdsK_sortWorldK_c qdw 3 w g 0 l.toArray d' n os (qrB hg h4) hgl (by simp [hsz]); have hlen : (qaP qac l).length = l.length := by rw [<- hd]; simpa using hsz
   refine ⟨rfl, ?_, .inr ⟨g, 0, _, _, rfl, hbg⟩, qkn w g 0 n d' os hbg hbase⟩; rw [<- hlen]; refine qmG (by omega) ?_; rw [<- hd]; simpa using hH
end Go.Proofs
namespace Go.Proofs
open Go Go.Am Go.RowKit Go.Sy Go.Gm
def qkc : CEvent := ⟨⟨0, 0, 0⟩, ⟨0, 0, 0⟩, 0, ⟨[], [], []⟩, ⟨[], false, false, false, false, 0, 0, 0⟩, []⟩
def zeroC : Array Value := #[.int .i64 0, .int .i64 0, .int .i64 0, .int .i64 0, .int .i64 0, .int .i64 0, .int .i64 0, .string ⟨#[]⟩, .string ⟨#[]⟩, .string ⟨#[]⟩, .string ⟨#[]⟩, .bool false, .bool false, .bool false, .bool false, .int .i64 0, .int .i64 0, .int .i64 0, .slice none 0 0]
theorem qvC {w : World} {bk : Nat} {L : List (CDot × (Value × CEvent))} (hm : MapIs w bk encD qkz L) (d : CDot) : (Instr.lookup 99 (.map (some bk)) (encD d) true).run Tryz.prog w = .ok (.tuple #[((getL L d).map (·.1)).getD (qci qkc (.slice none 0 0)), .bool (getL L d).isSome]) w := by
 rw [hm.lookup zz11 Tryz.underlying99 (z := qci qkc (.slice none 0 0)) (by kernel_rfl) d true]
 cases getL L d <;> rfl
theorem qb2 {B : Nat} {w0 : World} {b : Nat} (hb : B <= b) : ∀ (vs : List Value) (o : Nat) (w : World), Below B w0 w -> Below B w0 (w.setCells b o vs)
 | [], _, _, h => h
 | v :: r, o, w, h => by
  rw [World.setCells]; exact qb2 hb r (o + 1) _ (h.setCell hb v)
theorem qk9 (W : World) : (W.alloc (.cells zeroC 42)).drew.there W.heap.size 0 19 := fun j hj => by
 have h : (W.alloc (.cells zeroC 42)).drew.heap[W.heap.size]? = some (.cells zeroC 42 (0, 0)) := by
   show (W.alloc (.cells zeroC 42)).heap[W.heap.size]? = _
   rw [qcu, if_pos rfl]
 have hs : zeroC.size = 19 := rfl; constructor
 · unfold World.cell?
   simp only [h, Nat.zero_add, Option.isSome_none, Bool.false_eq_true, if_false]; rw [Array.getElem?_eq_getElem (by omega)]; rfl
 · unfold World.frozen?
   simp only [h]; simp
theorem qwp (W : World) (e : CEvent) (v : Value) (hv : v.oneCell' = true) : ∃ W4, (qci e v).cells.size = 19 /\ (storeCells ⟨W.heap.size, 0, none⟩ (qci e v).cells.toList).run Tryz.prog (W.alloc (.cells zeroC 42)).drew = .ok () W4 /\ Below W.heap.size W W4 /\
  W4.cell? ⟨W.heap.size, 6, none⟩ = some (.int .i64 e.kind) /\ W4.cell? ⟨W.heap.size, 7, none⟩ = some (encS e.key.name) /\ W4.cell? ⟨W.heap.size, 8, none⟩ = some (encS e.key.domain) /\ W4.cell? ⟨W.heap.size, 9, none⟩ = some (encS e.key.path) := by
 have hth := qk9 W; have hr := World.rangeAt_setCells_same (W.alloc (.cells zeroC 42)).drew W.heap.size 0 [.int .i64 e.dot.dev, .int .i64 e.dot.inc, .int .i64 e.dot.seq, .int .i64 e.stamp.wall, .int .i64 e.stamp.count, .int .i64 e.stamp.dev, .int .i64 e.kind, encS e.key.name, encS e.key.domain, encS e.key.path,
  encS e.cookie.value, .bool e.cookie.hostOnly, .bool e.cookie.secure, .bool e.cookie.httpOnly, .bool e.cookie.persistent, .int .i64 e.cookie.expiry, .int .i64 e.cookie.creation, .int .i64 e.cookie.access, v] hth
 refine ⟨_, rfl, run_storeCells_cells (P := Tryz.prog) W.heap.size 0 (qci e v).cells.toList 0 _ (fun j hj => (by simpa using (hth j hj).1)) (fun j hj => (by simp)) ?_, qb2 (Nat.le_refl _) _ _ _ ((Below.refl W.heap.size W).alloc (Nat.le_refl _) _).drew, hr 6 _ rfl, hr 7 _ rfl, hr 8 _ rfl, hr 9 _ rfl⟩; intro x hx; rw [qgF] at hx; simp only [Value.cells, List.mem_cons, List.not_mem_nil, or_false] at hx; rcases hx with rfl | rfl | rfl | rfl | rfl | rfl | rfl | rfl | rfl | rfl | rfl | rfl | rfl | rfl | rfl | rfl | rfl | rfl | rfl
 all_goals first | exact hv | rfl
end Go.Proofs
namespace Go.Proofs
open Go Go.Am Go.RowKit Go.Sy Go.Gm
theorem qwz (d : CDot) (w : World) : (Builtin.delete_ #[101, 35] 0 #[.map none, encD d]).run Tryz.prog w = .ok (.tuple #[]) w := by
 have h : (Instr.checkKey true 10000 35 (encD d)).run Tryz.prog w = .ok () w := zz11.chk true d w; unfold Builtin.delete_; simp [run_underlying Tryz.underlying101, h]
section
variable {K V : Type} [DecidableEq K]
theorem qp4 {A : List (K × V)} {k : K} (h : getL A k = none) : delL A k = A := by
 unfold delL; rw [List.filter_eq_self]; intro x hx; simp only [Bool.not_eq_true', decide_eq_false_iff_not]; rintro rfl; exact getL_none.1 h (List.mem_map.2 ⟨x, hx, rfl⟩)
theorem qsg (A : List (K × V)) (k : K) (v : V) : delL (qaq A k v) k = delL A k := by
 have key : ∀ A : List (K × V), (A.map fun x => if k = x.1 then (k, v) else x).filter (fun x => !decide (k = x.1)) = A.filter fun x => !decide (k = x.1) := by
   intro A; induction A with
   | nil => rfl
   | cons x A ih =>
    rw [List.map_cons, List.filter_cons, List.filter_cons, ih]; by_cases e : k = x.1 <;> simp [e]
 unfold qaq delL; split
 · exact key A
 · rw [List.filter_append]; simp
end
theorem qgi {S : Nat -> Prop} {w : World} {j : Nat} {o : Obj} (hm : qcW w j) (hS : S j) : But S w (World.setO w j o) := ⟨rfl, rfl, rfl, by simp [World.setO], fun k _ hk => qaz hm fun e => hk (by rw [e]; exact hS)⟩
theorem Tryz.kill {w : World} {n b bk ba bd bs bv : Nat} {G : GMap} (h : OMW w n b bk ba bd bs bv G) (d : CDot) :
  Calls Tryz.prog 73 #[.pointer (some ⟨b, 0, none⟩), encD d] w fun e' w' => e' = .returned (.tuple #[]) /\ But (qav bk ba bd bv G) w w' /\ OMW w' n b bk ba bd bs bv (qdK G d) := by
 obtain ⟨e, v, is, hv, hk, his, hG⟩ : ∃ (e : CEvent) (v : Value) (is : Bool), v.oneCell' = true /\ ((getL G.kept d).map (·.1)).getD (qci qkc (.slice none 0 0)) = qci e v /\ (getL G.kept d).isSome = is /\
   qdK G d = { G with dead := qaq G.dead d 1, alive := if is = true /\ e.kind = 1 then qhq G.alive e.key d else G.alive } := by
  cases hg : getL G.kept d with
  | none => exact ⟨qkc, .slice none 0 0, false, rfl, rfl, rfl, by unfold qdK; rw [hg]; simp⟩
  | some x =>
   obtain ⟨v, hx, hd⟩ := h.ev _ (qbx hg); refine ⟨x.2, v, true, ?_, hx, rfl, by unfold qdK; rw [hg]; simp⟩; rcases hd with ⟨_, a, c, rfl⟩ | ⟨_, _, _, _, _, _, rfl, _⟩ <;> rfl
 obtain ⟨G2, hG2⟩ : ∃ G2, qdK G d = G2 := ⟨_, rfl⟩; rw [hG2] at hG ⊢; obtain ⟨W, hW⟩ : ∃ W, (w.alloc (.cells #[.int .i64 d.dev, .int .i64 d.inc, .int .i64 d.seq] 35)) = W := ⟨_, rfl⟩; have hb : Below w.heap.size w W := by rw [<- hW]; exact (Below.refl w.heap.size w).alloc (Nat.le_refl _) _
 have h0 := h.below hb; have d0 : W.cell? ⟨w.heap.size, 0, none⟩ = some (.int .i64 d.dev) := by rw [<- hW]; simp
 have d1 : W.cell? ⟨w.heap.size, 1, none⟩ = some (.int .i64 d.inc) := by rw [<- hW]; simp
 have d2 : W.cell? ⟨w.heap.size, 2, none⟩ = some (.int .i64 d.seq) := by rw [<- hW]; simp
 have hsz : W.heap.size = w.heap.size + 1 := by rw [<- hW]; simp
 have h1 := h0.below (Below.refl W.heap.size W).drew; have c2 := h0.c2; obtain ⟨es, clk, hu, hmu⟩ := h1.md.update zz11 Tryz.underlying101 d 1; have h2 := h1.setDead hmu; have hmb : qcW W.drew bd := MapIs.isMap h1.md; obtain ⟨W2, hW2⟩ : ∃ W2, World.setO W.drew bd (.map es clk) = W2 := ⟨_, rfl⟩; have d0' : W2.cell? ⟨w.heap.size, 0, none⟩ = some (.int .i64 d.dev) := by rw [<- hW2]; exact qcq hmb d0
 have d1' : W2.cell? ⟨w.heap.size, 1, none⟩ = some (.int .i64 d.inc) := by rw [<- hW2]; exact qcq hmb d1
 have d2' : W2.cell? ⟨w.heap.size, 2, none⟩ = some (.int .i64 d.seq) := by rw [<- hW2]; exact qcq hmb d2
 rw [hW2] at hu h2; have hbut : But (qav bk ba bd bv G) w W2 := by
  refine (zz7 hb.drew).more (T := (· = bd)) ⟨by rw [<- hW2]; rfl, by rw [<- hW2]; rfl, by rw [<- hW2]; rfl, by rw [<- hW2]; simp [World.setO], fun k _ hk => by rw [<- hW2]; exact qaz hmb hk⟩ ?_; rintro i _ rfl; unfold qav; simp
 have hsz2 : w.heap.size < W2.heap.size := by rw [<- hW2]; simp [World.setO, hsz]
 obtain ⟨W4, hs19, hst, hb4, k6, k7, k8, k9⟩ := qwp W2 e v hv; obtain ⟨u, hue⟩ : ∃ u, u = qci e v := ⟨_, rfl⟩; rw [<- hue] at hst hk hs19; clear hue hv; obtain ⟨W3, hW3⟩ : ∃ W3, W2.alloc (.cells zeroC 42) = W3 := ⟨_, rfl⟩; have hb3 : Below W2.heap.size W2 W3 := by rw [<- hW3]; exact (Below.refl W2.heap.size W2).alloc (Nat.le_refl _) _
 rw [hW3] at hst; have h3 := h2.below hb3.drew; have c0 : W3.cell? ⟨b, 0, none⟩ = some (.map (some bk)) := (h2.below hb3).c0; have d0'' : W3.cell? ⟨w.heap.size, 0, none⟩ = some (.int .i64 d.dev) := (hb3.cell hsz2).trans d0'; have d1'' : W3.cell? ⟨w.heap.size, 1, none⟩ = some (.int .i64 d.inc) := (hb3.cell hsz2).trans d1'; have d2'' : W3.cell? ⟨w.heap.size, 2, none⟩ = some (.int .i64 d.seq) := (hb3.cell hsz2).trans d2'; have h2d := h2.below (Below.refl W2.heap.size W2).drew; have c0a := h2.c0; have hlk := qvC h3.mkp d; have hlka := qvC h2d.mkp d; have h4 := h2.below hb4; have e0 : W4.cell? ⟨w.heap.size, 0, none⟩ = some (.int .i64 d.dev) := (hb4.cell hsz2).trans d0'; have e1 : W4.cell? ⟨w.heap.size, 1, none⟩ = some (.int .i64 d.inc) := (hb4.cell hsz2).trans d1'; have e2 : W4.cell? ⟨w.heap.size, 2, none⟩ = some (.int .i64 d.seq) := (hb4.cell hsz2).trans d2'; rw [show G.kept = ({ G with dead := qaq G.dead d 1 } : GMap).kept from rfl] at hk his; rw [hk, his] at hlk hlka; rw [show encD d = .agg #[.int .i64 d.dev, .int .i64 d.inc, .int .i64 d.seq] from rfl] at hlk hlka hu ⊢; rw [show encJ 1 = .int .i64 1 from rfl] at hu; unfold zeroC at hW3; simp only [Value.cells] at hst hs19; clear h h0 h1 hmu hW2 h3 h2d hk; go_enter Tryz.func73, Tryz.ntmps73
 go_wp2_with fail
 go_region
 go_wp2_with fail
 go_region
 have hbut4 : But (qav bk ba bd bv G) w W4 := hbut.more (zz7 (S := fun _ => False) hb4) fun _ _ h => h.elim
 by_cases hin : is = true /\ e.kind = 1
 case neg =>
  rw [if_neg hin] at hG; have h5 : OMW W4 n b bk ba bd bs bv G2 := by rw [hG]; exact h4
  clear hG2 hG
  cases is with
  | false =>
   go_wp2; refine bodyPost_ret (results_none rfl _ _ _) rfl ?_; exact ⟨rfl, hbut4, h5⟩
  | true =>
   have hkd : ¬ e.kind = 1 := fun hh => hin ⟨rfl, hh⟩
   go_wp2; refine bodyPost_ret (results_none rfl _ _ _) rfl ?_; exact ⟨rfl, hbut4, h5⟩
 case pos =>
  obtain ⟨rfl, hkd⟩ := hin; rw [if_pos ⟨rfl, hkd⟩] at hG; rw [hkd] at k6; have h4d := h4.below (Below.refl W4.heap.size W4).drew; have c1 := h4.c1; have hlk4 := zz12 h4d.ma e.key; rw [show encK e.key = .agg #[encS e.key.name, encS e.key.domain, encS e.key.path] from rfl] at hlk4; unfold qhq at hG
  cases hj : getL G.alive e.key with
  | none =>
   rw [show ({ G with dead := qaq G.dead d 1 } : GMap).alive = G.alive from rfl, hj] at hlk4; rw [hj] at hG; simp only [Option.map_none] at hlk4; have hdn := qwz d W4.drew; rw [show encD d = .agg #[.int .i64 d.dev, .int .i64 d.inc, .int .i64 d.seq] from rfl] at hdn; have h5 := h4d.below (Below.refl W4.drew.heap.size W4.drew).drew; have h6 := h5.below (Below.refl W4.drew.drew.heap.size W4.drew.drew).drew; have hlk5 := zz12 h5.ma e.key; rw [show encK e.key = .agg #[encS e.key.name, encS e.key.domain, encS e.key.path] from rfl] at hlk5; rw [show ({ G with dead := qaq G.dead d 1 } : GMap).alive = G.alive from rfl, hj] at hlk5; simp only [Option.map_none] at hlk5; obtain ⟨es6, clk6, hu6, hm6⟩ := h6.ma.delete (ts := #[100, 24]) (ty := 0) qri Tryz.underlying100 e.key rfl; rw [show encK e.key = .agg #[encS e.key.name, encS e.key.domain, encS e.key.path] from rfl] at hu6; have h7 := h6.delAlive hm6; rw [show ({ G with dead := qaq G.dead d 1 } : GMap).alive = G.alive from rfl, qp4 hj] at h7; have hb7 : But (qav bk ba bd bv G) w (World.setO W4.drew.drew.drew ba (.map es6 clk6)) := hbut4.drew.drew.drew.trans (qgi (S := qav bk ba bd bv G) (MapIs.isMap h6.ma) (by unfold qav; simp)); have h8 : OMW (World.setO W4.drew.drew.drew ba (.map es6 clk6)) n b bk ba bd bs bv G2 := by rw [hG]; exact h7
   clear h4 h4d h5 h6 h7 hm6 hG hG2; go_wp2_with fail
   go_region
   go_wp2_with fail
   go_region
   go_wp2_with fail
   go_region
   go_wp2; go_end0
   exact ⟨rfl, hb7, h8⟩
  | some x =>
   obtain ⟨j, L⟩ := x; have hj' : getL ({ G with dead := qaq G.dead d 1 } : GMap).alive e.key = some (j, L) := hj; rw [hj'] at hlk4; rw [hj] at hG; simp only [Option.map_some] at hlk4; simp only at hG; have hjm := qbx hj'; obtain ⟨es5, clk5, hu5, hm5⟩ := (h4d.mi _ hjm).delete (ts := #[101, 35]) (ty := 0) zz11 Tryz.underlying101 d rfl; rw [show encD d = .agg #[.int .i64 d.dev, .int .i64 d.inc, .int .i64 d.seq] from rfl] at hu5; have h5 := h4d.setInner hj' hm5; have hmj : qcW W4.drew j := MapIs.isMap (h4d.mi _ hjm); have hb5 : But (qav bk ba bd bv G) w (World.setO W4.drew j (.map es5 clk5)) := hbut4.drew.trans (qgi (S := qav bk ba bd bv G) hmj (by unfold qav; simp only [List.mem_cons, List.mem_map]; exact .inr (.inr (.inr (.inr ⟨_, qbx hj, rfl⟩))))); obtain ⟨W5, hW5⟩ : ∃ W5, World.setO W4.drew j (.map es5 clk5) = W5 := ⟨_, rfl⟩; have q7 : W5.cell? ⟨W2.heap.size, 7, none⟩ = some (encS e.key.name) := by rw [<- hW5]; exact qcq hmj k7
   have q8 : W5.cell? ⟨W2.heap.size, 8, none⟩ = some (encS e.key.domain) := by rw [<- hW5]; exact qcq hmj k8
   have q9 : W5.cell? ⟨W2.heap.size, 9, none⟩ = some (encS e.key.path) := by rw [<- hW5]; exact qcq hmj k9
   rw [hW5] at hu5 h5 hb5; have c1' := h5.c1; have hget : getL (qaq G.alive e.key (j, delL L d)) e.key = some (j, delL L d) := by rw [qaR]; simp
   have h6 := h5.below (Below.refl W5.heap.size W5).drew; have hlk6 := zz12 h6.ma e.key; rw [show encK e.key = .agg #[encS e.key.name, encS e.key.domain, encS e.key.path] from rfl, show ({ G with dead := qaq G.dead d 1, alive := qaq G.alive e.key (j, delL L d) } : GMap).alive = qaq G.alive e.key (j, delL L d) from rfl, hget] at hlk6; simp only [Option.map_some] at hlk6; obtain ⟨esl, clkl, hbl, hszl⟩ := (h6.mi _ (qbx hget)).len; have hlen : (Builtin.len_ #[101] 3 #[.map (some j)]).run Tryz.prog W5.drew = .ok (.int .i64 (delL L d).length) W5.drew := by
     rw [run_len_map W5.drew 101 3 j esl clkl (by simp [Program.mapKeyOf, Program.mapElemOf, Tryz.underlying101]) hbl, hszl]; rfl
   by_cases hnil : delL L d = []
   · rw [if_pos hnil] at hG; have hz : ((delL L d).length : Int) = 0 := by rw [hnil]; rfl
     rw [hz] at hlen; have h7 := h6.below (Below.refl W5.drew.heap.size W5.drew).drew; obtain ⟨es8, clk8, hu8, hm8⟩ := h7.ma.delete (ts := #[100, 24]) (ty := 0) qri Tryz.underlying100 e.key rfl; rw [show encK e.key = .agg #[encS e.key.name, encS e.key.domain, encS e.key.path] from rfl] at hu8; have h8 := h7.delAlive hm8; rw [show ({ G with dead := qaq G.dead d 1, alive := qaq G.alive e.key (j, delL L d) } : GMap).alive = qaq G.alive e.key (j, delL L d) from rfl, qsg] at h8; have hb9 : But (qav bk ba bd bv G) w (World.setO W5.drew.drew ba (.map es8 clk8)) := hb5.drew.drew.trans (qgi (S := qav bk ba bd bv G) (MapIs.isMap h7.ma) (by unfold qav; simp)); have h9 : OMW (World.setO W5.drew.drew ba (.map es8 clk8)) n b bk ba bd bs bv G2 := by rw [hG]; exact h8
     clear h4 h4d h5 h6 h7 h8 hm8 hm5 hG hG2 hget hbl hnil hj hj' hW5; go_wp2_with fail
     go_region
     go_wp2_with fail
     go_region
     go_wp2_with fail
     go_region
     go_wp2; go_end0
     exact ⟨rfl, hb9, h9⟩
   · rw [if_neg hnil] at hG; have hz : decide (((delL L d).length : Int) = 0) = false := decide_eq_false (by
      intro h0; exact hnil (List.length_eq_zero_iff.1 (by omega)))
     have h9 : OMW W5.drew n b bk ba bd bs bv G2 := by rw [hG]; exact h6
     have hz' : ((((delL L d).length : Int)) == 0) = false := by simpa using hz
     clear h4 h4d h5 h6 hm5 hG hG2 hget hbl hj hj' hW5; go_wp2_with fail
     go_region
     go_wp2_with fail
     go_region
     go_wp2; go_end0
     exact ⟨rfl, hb5.drew, h9⟩
end Go.Proofs
namespace Go.Proofs
open Go Go.Am Go.RowKit Go.Sy Go.Gm
def qah (e : CEvent) (v : Value) : List Value := [.int .i64 e.dot.dev, .int .i64 e.dot.inc, .int .i64 e.dot.seq, .int .i64 e.stamp.wall, .int .i64 e.stamp.count, .int .i64 e.stamp.dev, .int .i64 e.kind, encS e.key.name, encS e.key.domain, encS e.key.path,
 encS e.cookie.value, .bool e.cookie.hostOnly, .bool e.cookie.secure, .bool e.cookie.httpOnly, .bool e.cookie.persistent, .int .i64 e.cookie.expiry, .int .i64 e.cookie.creation, .int .i64 e.cookie.access, v]
theorem qei {e : CEvent} {v : Value} (hv : v.oneCell' = true) : ∀ x ∈ qah e v, x.oneCell' = true := by
 intro x hx; simp only [qah, List.mem_cons, List.not_mem_nil, or_false] at hx; rcases hx with rfl | rfl | rfl | rfl | rfl | rfl | rfl | rfl | rfl | rfl | rfl | rfl | rfl | rfl | rfl | rfl | rfl | rfl | rfl
 all_goals first | exact hv | rfl
theorem qwq : ∃ fs, Tryz.prog.underlying 42 = some (.struct fs) := ⟨_, Tryz.underlying42⟩
theorem qwB {W : World} {b : Nat} {e : CEvent} {v : Value} (h : W.rangeAt b 0 (qah e v)) : (loadVar 42 ⟨b, 0, none⟩).run Tryz.prog W = .ok (qci e v) W := by
 obtain ⟨fs, hu⟩ := qwq; exact run_loadVar_mid W b 0 42 (qah e v) _ h hu rfl (by kernel_rfl)
theorem zz97 {W : World} {b : Nat} {e : CEvent} {v : Value} (h : W.rangeAt b 0 (qah e v)) : (loadCellsFrom ⟨b, 0, none⟩ 0 19 #[]).run Tryz.prog W = .ok (qah e v).toArray W := by
 have hl : (loadCells ⟨b, 0, none⟩ (qah e v).length).run Tryz.prog W = .ok (qah e v).toArray W :=
  run_loadCells_list (P := Tryz.prog) W ⟨b, 0, none⟩ (qah e v) (fun j v hv => by rw [Addr.add_mid]; exact h j v hv)
 exact hl
def Hid (p : Prop) : Prop := p
theorem qeV : ∃ (SZ : Sem Nat) (m : Nat), sizeOf 42 = SZ /\ (∀ w, SZ.run Tryz.prog w = .ok m w) /\ Hid (m = 19) := ⟨_, _, rfl, Tryz.sizeOf42, rfl⟩
theorem qvw {W : World} {b : Nat} {e : CEvent} {v : Value} (hv : v.oneCell' = true) (hth : W.there b 0 19) : (qci e v).cells.size = 19 /\ (storeCells ⟨b, 0, none⟩ (qci e v).cells.toList).run Tryz.prog W = .ok () (W.setCells b 0 (qah e v)) :=
 ⟨rfl, run_storeCells_cells (P := Tryz.prog) b 0 (qah e v) 0 W (fun j hj => (by simpa using (hth j hj).1)) (fun j hj => (by simpa using (hth j hj).2)) (qei hv)⟩
theorem qcA (W : World) (e : CEvent) (v : Value) : (W.alloc (.cells (qci e v).cells 42)).rangeAt W.heap.size 0 (qah e v) := fun j x hx => by
 have h : (W.alloc (.cells (qci e v).cells 42)).heap[W.heap.size]? = some (.cells (qah e v).toArray 42 (0, 0)) := by
  rw [qcu, if_pos rfl]; rfl
 unfold World.cell?
 simp only [h, Nat.zero_add, Option.isSome_none, Bool.false_eq_true, if_false]; simpa using hx
theorem qal {W W' : World} (hc : qa6 W W') {b o : Nat} {cs : List Value} (h : W.rangeAt b o cs) : W'.rangeAt b o cs := fun j x hx => by
 have h1 := h j x hx; refine qaf h1 ?_; unfold World.cell? at h1
 cases e : W.heap[b]? with
 | none => simp [e] at h1
 | some q =>
  cases q with
  | cells arr t fz => exact hc _ _ _ _ e
  | _ => simp [e] at h1
theorem qev {W W' : World} (hc : qa6 W W') {b n : Nat} (h : W.there b 0 n) (hn : 0 < n) : W'.there b 0 n := by
 have h1 := (h 0 hn).1; have hb : W'.heap[b]? = W.heap[b]? := by
  obtain ⟨u, hu⟩ := Option.isSome_iff_exists.1 h1; unfold World.cell? at hu
  cases e : W.heap[b]? with
  | none => simp [e] at hu
  | some q =>
   cases q with
   | cells arr t fz => exact hc _ _ _ _ e
   | _ => simp [e] at hu
 intro j hj; have h2 := h j hj; unfold World.cell? World.frozen? at h2 ⊢; rw [hb]; exact h2
theorem qdO (W : World) (cs : Array Value) : (W.alloc (.cells cs 42)).there W.heap.size 0 cs.size := fun j hj => by
 have h : (W.alloc (.cells cs 42)).heap[W.heap.size]? = some (.cells cs 42 (0, 0)) := by rw [qcu, if_pos rfl]
 constructor
 · unfold World.cell?
   simp only [h, Nat.zero_add, Option.isSome_none, Bool.false_eq_true, if_false]; rw [Array.getElem?_eq_getElem hj]; rfl
 · unfold World.frozen?
   simp only [h]; simp
theorem qni {W W' : World} {b n : Nat} (hb : W'.heap[b]? = W.heap[b]?) (h : W.there b 0 n) : W'.there b 0 n := by
 intro j hj; have h2 := h j hj; unfold World.cell? World.frozen? at h2 ⊢; rw [hb]; exact h2
theorem qkV {W : World} {b : Nat} {e : CEvent} {v v' : Value} (h : W.rangeAt b 0 (qah e v)) : (W.setCell ⟨b, 18, none⟩ v').rangeAt b 0 (qah e v') := by
 have h18 := h 18 v rfl; intro j x hx; have hj : j < 19 := (List.getElem?_eq_some_iff.1 hx).1; by_cases e18 : j = 18
 · subst e18
   cases hx; exact World.cell?_setCell_same' _ _ _ (by rw [show (⟨b, 18, none⟩ : Addr) = ⟨b, 0 + 18, none⟩ from rfl, h18]; rfl)
 · have hx' : (qah e v)[j]? = some x := by
     match j, hj with
     | 0, _ | 1, _ | 2, _ | 3, _ | 4, _ | 5, _ | 6, _ | 7, _ | 8, _ | 9, _ | 10, _ | 11, _ | 12, _ | 13, _ | 14, _ | 15, _ | 16, _ | 17, _ => exact hx
     | 18, _ => exact absurd rfl e18
   rw [World.cell?_setCell_other]
   · exact h j x hx'
   · intro he; have := congrArg Addr.off he; simp at this; omega
theorem qjS {fn : Func} {t : Tmp} {ty : TypeId} (h : fn.results = #[.cell t ty]) {tmps : Array Value} {w : World} {a : Addr} {v : Value} (hp : tmps.getD t undef = .pointer (some a)) (hl : (loadVar ty a).run Tryz.prog w = .ok v w) : (results fn tmps).run Tryz.prog w = .ok v w := by
 have hp' : tmps[t]?.getD undef = .pointer (some a) := by simpa using hp
 simp [results, h, asAddr, hp', hl]
theorem DotsV.one {w : World} {l : List CDot} {v : Value} (h : DotsV w l v) : ∃ a n c, v = .slice a n c := by
 rcases h with ⟨_, a, c, rfl⟩ | ⟨_, _, _, _, _, _, rfl, _⟩ <;> exact ⟨_, _, _, rfl⟩
theorem qed {B : Nat} (b : Nat) : ∀ (vs : List Value) (o : Nat) (w : World) (k : Nat), k ≠ b -> (w.setCells b o vs).heap[k]? = w.heap[k]?
 | [], _, _, _, _ => rfl
 | v :: r, o, w, k, h => by
  rw [World.setCells, qed (B := B) b r (o + 1) _ k h]; exact Below.heap_setCell w ⟨b, o, none⟩ v k h
theorem qfc (b : Nat) : ∀ (vs : List Value) (o : Nat) (w : World), (w.setCells b o vs).heap.size = w.heap.size
 | [], _, _ => rfl
 | v :: r, o, w => by rw [World.setCells, qfc b r (o + 1)]; simp
def EvN (w : World) (n : Nat) (u : Value) (e : CEvent) : Prop := ∃ v, u = qci e v /\ DotsN w n e.over v
theorem EvN.ev {w : World} {n : Nat} {u : Value} {e : CEvent} (h : EvN w n u e) : EvV w u e := by
 obtain ⟨v, h1, h2⟩ := h; exact ⟨v, h1, h2.dots⟩
theorem EvN.mono {w : World} {n m : Nat} {u : Value} {e : CEvent} (h : EvN w n u e) (hm : m <= n) : EvN w m u e := by
 obtain ⟨v, h1, h2⟩ := h; exact ⟨v, h1, h2.mono hm⟩
theorem qwv {w3 : World} {bx bz n : Nat} {e : CEvent} {v v' : Value} (r3 : w3.rangeAt bx 0 (qah e v)) (t3 : w3.there bx 0 19) (t4 : w3.there bz 0 19) (hne : bz ≠ bx) (hd : DotsN w3 n e.over v') (hx : bx < n) (hz : bz < n) :
   ∃ cs W4 W5, w3.setCell ⟨bx, 18, none⟩ v' = W4 /\ w3.cell? ⟨bx, 18, none⟩ = some v /\ w3.frozen? ⟨bx, 18, none⟩ = false /\ (loadCellsFrom ⟨bx, 0, none⟩ 0 19 #[]).run Tryz.prog W4 = .ok cs W4 /\ cs.size = 19 /\ (storeCells ⟨bz, 0, none⟩ cs.toList).run Tryz.prog W4 = .ok () W5 /\
    (loadVar 42 ⟨bz, 0, none⟩).run Tryz.prog W5 = .ok (.agg cs) W5 /\ EvN W5 n (.agg cs) e /\ ∀ B, B <= bx -> B <= bz -> Below B w3 W5 := by
 have hv := hd.one; obtain ⟨sa, sn, sc, rfl⟩ := hv; have r4 : (w3.setCell ⟨bx, 18, none⟩ (.slice sa sn sc)).rangeAt bx 0 (qah e (.slice sa sn sc)) := qkV r3; have t5 : (w3.setCell ⟨bx, 18, none⟩ (.slice sa sn sc)).there bz 0 19 := qni (Below.heap_setCell _ _ _ _ hne) t4; obtain ⟨s19, hst⟩ := qvw (e := e) (v := .slice sa sn sc) rfl t5; have r5 := World.rangeAt_setCells_same (w3.setCell ⟨bx, 18, none⟩ (.slice sa sn sc)) bz 0 (qah e (.slice sa sn sc)) t5; refine ⟨(qah e (.slice sa sn sc)).toArray, _, _, rfl, r3 18 v rfl, (t3 18 (by omega)).2, zz97 r4, rfl, hst, qwB r5, ⟨_, rfl, hd.keep fun b _ hb _ => ?_⟩, fun B h1 h2 => ?_⟩
 · rw [qed (B := 0) bz _ _ _ _ (by omega), Below.heap_setCell _ _ _ _ (by show b ≠ bx; omega)]
 · exact qb2 h2 _ _ _ ((Below.refl _ _).setCell h1 _)
theorem qvo {w : World} {e : CEvent} {u : Value} (h : EvV w u e) (hl : e.over.length <= 100000) : Calls Tryz.prog 70 #[u] w fun e' w' => ∃ u', e' = .returned u' /\ EvN w' w.heap.size u' e /\ Below w.heap.size w w' := by
 obtain ⟨v, hu, hd⟩ := h; obtain ⟨va, vn, vc, hve⟩ := hd.one; obtain ⟨cs, hcs⟩ : ∃ cs : Array Value, (qah e v).toArray = cs := ⟨_, rfl⟩; have hu' : u = .agg cs := by rw [hu, <- hcs]; rfl
 clear hu; subst hu'; obtain ⟨W, hW⟩ : ∃ W, w.alloc (.cells cs 42) = W := ⟨_, rfl⟩; have hb : Below w.heap.size w W := by rw [<- hW]; exact (Below.refl w.heap.size w).alloc (Nat.le_refl _) _
 have hr : W.rangeAt w.heap.size 0 (qah e v) := by rw [<- hW, <- hcs]; exact qcA w e v
 have hs : W.heap.size = w.heap.size + 1 := by rw [<- hW]; simp
 have ht : W.there w.heap.size 0 19 := by
  have := qdO w cs; rw [hW, show cs.size = 19 by rw [<- hcs]; rfl] at this; exact this
 obtain ⟨W2, hW2⟩ : ∃ W2, W.alloc (.cells zeroC 42) = W2 := ⟨_, rfl⟩; have hb2 : Below W.heap.size W W2 := by rw [<- hW2]; exact (Below.refl W.heap.size W).alloc (Nat.le_refl _) _
 have ht2 : W2.there W.heap.size 0 19 := by
  have := qdO W zeroC; rw [hW2] at this; exact this
 have hs2 : W2.heap.size = w.heap.size + 2 := by rw [<- hW2]; simp [hs]
 have hc2 : qa6 w W2 := fun b arr t fz hx => zz2 hb2 _ _ _ _ (zz2 hb _ _ _ _ hx)
 have k18 : W2.cell? ⟨w.heap.size, 18, none⟩ = some v := qal (zz2 hb2) hr 18 v rfl; have hcall := qwl (hd.cells hc2) hl; rw [hve] at hcall k18; obtain ⟨SZ, m, hSZ, hsz, hm⟩ := qeV; have hr2 : W2.rangeAt w.heap.size 0 (qah e v) := qal (zz2 hb2) hr; have ht1 : W2.there w.heap.size 0 19 := qev (zz2 hb2) ht (by omega); rw [hs] at ht2; unfold zeroC at hW2; clear hcs hve; go_enter Tryz.func70, Tryz.ntmps70
 go_wp2_with (go_at_call 112; go_loud (refine hcall.mono ?_; rintro e' w3 ⟨v', rfl, hd3, hb3⟩; obtain ⟨cs', W4, W5, hW4, k3, f3, x1, s19, hst, x2, hev, hbel⟩ := qwv (qal (zz2 hb3) hr2) (qev (zz2 hb3) ht1 (by omega)) (qev (zz2 hb3) ht2 (by omega)) (by omega) hd3 (by omega) (by omega); obtain ⟨sa, sn, sc, rfl⟩ := hd3.one; rw [<- (hm : m = 19)] at x1 s19; clear hm; have hbf := (hb.trans ((hb2.mono (by omega)).trans (hb3.mono (by omega)))).trans (hbel w.heap.size (Nat.le_refl _) (by omega))))
 refine bodyPost_ret (qjS rfl rfl x2) rfl ?_; exact ⟨_, rfl, hev.mono (by omega), hbf⟩
theorem qwA {w : World} {e : CEvent} {u : Value} (h : EvV w u e) (hl : e.over.length <= 100000) : Calls Tryz.prog 70 #[u] w fun e' w' => ∃ u', e' = .returned u' /\ EvV w' u' e /\ Below w.heap.size w w' := by
 refine (qvo h hl).mono ?_; rintro e' w' ⟨u', rfl, h1, h2⟩; exact ⟨u', rfl, h1.ev, h2⟩
end Go.Proofs
namespace Go.Proofs
open Go Go.Am Go.RowKit Go.Sy Go.Gm Go.Maps Go.Sort Go.Shelf
theorem NewD.mono {n m : Nat} {l : List CDot} {v : Value} (h : NewD n l v) (hm : m <= n) : NewD m l v := by
 rcases h with h | ⟨b, off, k, c, h, hb⟩
 · exact .inl h
 · exact .inr ⟨b, off, k, c, h, Nat.le_trans hm hb⟩
theorem qwS (b : Nat) (w : World) : Calls Tryz.prog 183 #[.map (some b)] w fun e w' => e = .returned (.func (.func 231) #[] #[.pointer (some ⟨w.heap.size, 0, none⟩)]) /\ w' = w.alloc (.cells #[.map (some b)] 101) := by
 go_enter Tryz.func183, Tryz.ntmps183
 go_wp2; go_ret; exact ⟨rfl, rfl⟩
theorem qwo {w : World} {Bm b : Nat} {L : DL} (hm : w.cell? ⟨Bm, 0, none⟩ = some (.map (some b))) (hown : MapIs w b encD encJ L) (hl : L.length <= 1000000) :
  Calls Tryz.prog 182 #[.func (.func 231) #[] #[.pointer (some ⟨Bm, 0, none⟩)], .func (.func 184) #[] #[]] w fun e w' => ∃ v, e = .returned v /\ DotsV w' (qaP qac (L.map (·.1))) v /\ NewD w.heap.size (qaP qac (L.map (·.1))) v /\ Below w.heap.size w w' := by
 letI : Inhabited DrP := ⟨⟨True, #[]⟩⟩
 have hcol := callsIn_wide.1 (qwh 3 (Nat.le_refl _) _ _ L.length hl w (qv1 1 (Nat.le_refl _) Bm b L w (qaI hm) hm hown)); go_enter Tryz.func182, Tryz.ntmps182
 go_wp2_with (first
  | (go_at_call 229; refine hcol.mono ?_; rintro e w1 ⟨v, ss, rfl, hS, hrow, hb1⟩; have hnd : ss.Nodup := hS.nodup_iff.2 hown.nd; have hsl : ss.length <= 1000000 := hS.length_eq.trans (List.length_map _) ▸ hl; have hsort := qwb hnd hrow hsl hb1.size)
  | (go_at_call 230; refine hsort.mono ?_; rintro e w2 ⟨rfl, hd, hn, hb2⟩))
 go_ret; have heq : qaP qac ss = qaP qac (L.map (·.1)) := qfe (qcL ss) fun x => by rw [qcY]; exact hS.mem_iff
 rw [heq] at hd hn; exact ⟨v, rfl, hd, hn, hb1.trans hb2⟩
theorem zz67 {w : World} {bd : Nat} {L : DL} (hm : MapIs w bd encD encJ L) (d : CDot) : (Instr.lookup 101 (.map (some bd)) (encD d) false).run Tryz.prog w = .ok (.int .i64 ((getL L d).getD 0)) w := by
 rw [hm.lookup zz11 Tryz.underlying101 (qpi w) d false]
 cases getL L d <;> rfl
theorem qoe {K V : Type} [DecidableEq K] [Inhabited V] {L : List (K × V)} {k : K} (hk : k ∉ L.map (·.1)) (z : V) : getL (L ++ [(k, z)]) k = some z := by
 have := qaR L k k z; unfold qaq at this; rw [if_neg hk, if_pos rfl] at this; exact this
theorem qqZ {K V : Type} [DecidableEq K] {L : List (K × V)} {k : K} {v : V} (x : K) : x ∈ (qaq L k v).map (·.1) ↔ x = k \/ x ∈ L.map (·.1) := by
 have h := qaR L k x v; by_cases e : x = k
 · rw [if_pos e] at h; refine ⟨fun _ => .inl e, fun _ => ?_⟩; by_cases hm : x ∈ (qaq L k v).map (·.1)
   · exact hm
   · rw [getL_none.2 hm] at h; cases h
 · rw [if_neg e] at h; constructor
   · intro hm; refine .inr ?_; by_cases hn : x ∈ L.map (·.1)
     · exact hn
     · rw [getL_none.2 hn] at h; exact absurd hm (getL_none.1 h)
   · rintro (hm | hm)
     · exact absurd hm e
     · by_cases hn : x ∈ (qaq L k v).map (·.1)
       · exact hn
       · rw [getL_none.2 hn] at h; exact absurd hm (getL_none.1 h.symm)
theorem qqy {l : List CDot} {k : Nat} (hlt : k < l.length) {M : DL} {v : Int} (h : ∀ d, d ∈ M.map (·.1) ↔ d ∈ l.take k) : ∀ d, d ∈ (qaq M l[k] v).map (·.1) ↔ d ∈ l.take (k + 1) := fun d => by
 rw [qqZ, h, List.take_succ, List.getElem?_eq_getElem hlt, List.mem_append]; simp only [Option.toList_some, List.mem_singleton]; exact or_comm
theorem qsx {M : DL} {d : CDot} {v : Int} {k : Nat} (h : M.length <= k) : (qaq M d v).length <= k + 1 := by
 unfold qaq; split
 · rw [List.length_map]; omega
 · simp; omega
theorem qr4 {M : DL} {k : Nat} (h : ∀ d, 0 <= (getL M d).getD 0 /\ (getL M d).getD 0 <= (k : Int)) {e : CDot} : ∀ d, 0 <= (getL (qaq M e ((getL M e).getD 0 + 1)) d).getD 0 /\ (getL (qaq M e ((getL M e).getD 0 + 1)) d).getD 0 <= ((k + 1 : Nat) : Int) := fun d => by
 rw [qaR]; have h1 := h e; have h2 := h d; split
 · simp only [Option.getD_some]; omega
 · omega
theorem qwi {w : World} {l : List CDot} {v : Value} (h : DotsV w l v) (hl : l.length <= 1000000) :
  Calls Tryz.prog 156 #[v] w fun e w' => ∃ v', e = .returned v' /\ DotsV w' (qaP qac l) v' /\ NewD w.heap.size (qaP qac l) v' /\ Below w.heap.size w w' := by
 letI : Inhabited DrP := ⟨⟨True, #[]⟩⟩
 obtain ⟨sa, sn, sc, rfl⟩ := h.one; have hsn : sn = l.length := by
  rcases h with ⟨h0, a, c, hh⟩ | ⟨_, _, _, _, _, _, hh, _⟩
  · cases hh; rw [h0]; rfl
  · cases hh; rfl
 subst hsn; have hmm := @run_makeMap Tryz.prog; go_enter Tryz.func156, Tryz.ntmps156
 go_wp2; go_loopw [9] (fun i wr => ∃ (k : Nat) (M : DL), k <= l.length /\ i = .int .i64 k /\ MapIs wr w.heap.size encD encJ M /\ (∀ d, d ∈ M.map (·.1) ↔ d ∈ l.take k) /\ M.length <= k /\ (∀ d, 0 <= (getL M d).getD 0 /\ (getL M d).getD 0 <= k) /\ Below w.heap.size w wr)
  (fun i _ => l.length - (intOf i).toNat)
 case atStart => exact ⟨0, [], Nat.zero_le _, rfl, qbV (by rw [qcu, if_pos rfl]), by simp, Nat.zero_le _, fun d => by simp [qb6], (Below.refl _ _).alloc (Nat.le_refl _) _⟩
 case round =>
  obtain ⟨k, M, hk, rfl, hM, hmem, hml, hcnt, hbr⟩ := hrel; by_cases hlt : k < l.length
  · rcases h with ⟨h0, _⟩ | ⟨ob, off, cap, arr, ty, fz, hh, hob, hcap, hlen, hcells⟩
    · rw [h0] at hlt; exact absurd hlt (Nat.not_lt_zero _)
    · simp only [Value.slice.injEq] at hh; obtain ⟨rfl, -, rfl⟩ := hh; obtain ⟨x0, x1, x2⟩ := hcells k hlt; have hobr := (hbr.block ob (Array.getElem?_eq_some_iff.1 hob).1).trans hob; have cell : ∀ {j : Nat} {u : Value}, arr[j]? = some u -> wr.cell? ⟨ob, j, none⟩ = some u := fun hx => by
       unfold World.cell?; simp only [hobr, Option.isSome_none, Bool.false_eq_true, if_false]; exact hx
      have c0 := cell x0; have c1 := cell x1; have c2 := cell x2; obtain ⟨W, hW⟩ : ∃ W, wr.alloc (.cells #[.int .i64 l[k].dev, .int .i64 l[k].inc, .int .i64 l[k].seq] 35) = W := ⟨_, rfl⟩; have hbW : Below wr.heap.size wr W := by rw [<- hW]; exact (Below.refl _ _).alloc (Nat.le_refl _) _
      have d0 : W.cell? ⟨wr.heap.size, 0, none⟩ = some (.int .i64 l[k].dev) := by rw [<- hW]; simp
      have d1 : W.cell? ⟨wr.heap.size, 1, none⟩ = some (.int .i64 l[k].inc) := by rw [<- hW]; simp
      have d2 : W.cell? ⟨wr.heap.size, 2, none⟩ = some (.int .i64 l[k].seq) := by rw [<- hW]; simp
      have hMW : MapIs W.drew w.heap.size encD encJ M := hM.same (hbW.drew.block _ (Go.Gm.MapIs.lt hM)); have hlk := zz67 hMW l[k]; have hz0 := (hcnt l[k]).1; have hz1 := (hcnt l[k]).2; have hwr : IntKind.i64.wrap ((getL M l[k]).getD 0 + 1) = (getL M l[k]).getD 0 + 1 := IntWalk.i64_in _ (by omega); have hwr' : wrap64 ((getL M l[k]).getD 0 + 1) = (getL M l[k]).getD 0 + 1 := IntWalk.wrap64_in _ (by omega); obtain ⟨ev, en, o1, o2, he1, he2, hmb, hM2, hM1⟩ := hMW.entry zz11 Tryz.underlying101 (z := 0) (fun w => qpi w) l[k] ((getL M l[k]).getD 0 + 1); have hlk1 : (Instr.lookup 101 (.map (some w.heap.size)) (encD l[k]) false).run Tryz.prog (World.setO W.drew w.heap.size o1) = .ok (.int .i64 ((getL M l[k]).getD 0)) (World.setO W.drew w.heap.size o1) := by
       rcases hM1 with hM1 | ⟨hk1, hM1⟩
       · exact zz67 hM1 l[k]
       · rw [zz67 hM1 l[k], qoe hk1, getL_none.2 hk1]; rfl
      have hs1 : ∀ j, j ≠ w.heap.size -> (World.setO W.drew w.heap.size o1).heap[j]? = W.heap[j]? := fun j hj => qaz hMW.isMap hj
      have hs2 : ∀ j, j ≠ w.heap.size -> (World.setO (World.setO W.drew w.heap.size o1) w.heap.size o2).heap[j]? = W.heap[j]? := fun j hj => (qaz hmb hj).trans (hs1 j hj)
      have hne : wr.heap.size ≠ w.heap.size := Nat.ne_of_gt (Go.Gm.MapIs.lt hM); have hB2 : Below w.heap.size w (World.setO (World.setO W.drew w.heap.size o1) w.heap.size o2) := ⟨hbW.os.trans hbr.os, hbW.tape.trans hbr.tape, hbW.output.trans hbr.output, by have h1 := hbW.size; have h2 := hbr.size; simp [World.setO]; omega, fun j hj => ((hs2 j (Nat.ne_of_lt hj)).trans (hbW.block j (Nat.lt_of_lt_of_le hj hbr.size))).trans (hbr.block j hj)⟩; obtain ⟨W1, hW1⟩ : ∃ W1, World.setO W.drew w.heap.size o1 = W1 := ⟨_, rfl⟩; rw [hW1] at he1 he2 hmb hM2 hlk1 hs1 hs2 hB2; obtain ⟨W2, hW2⟩ : ∃ W2, World.setO W1 w.heap.size o2 = W2 := ⟨_, rfl⟩; rw [hW2] at he2 hM2 hs2 hB2; have p0 : W2.cell? ⟨wr.heap.size, 0, none⟩ = some (.int .i64 l[k].dev) := qaf d0 (hs2 _ hne); have p1 : W2.cell? ⟨wr.heap.size, 1, none⟩ = some (.int .i64 l[k].inc) := qaf d1 (hs2 _ hne); have p2 : W2.cell? ⟨wr.heap.size, 2, none⟩ = some (.int .i64 l[k].seq) := qaf d2 (hs2 _ hne); have q0 : W1.cell? ⟨wr.heap.size, 0, none⟩ = some (.int .i64 l[k].dev) := qaf d0 (hs1 _ hne); have q1 : W1.cell? ⟨wr.heap.size, 1, none⟩ = some (.int .i64 l[k].inc) := qaf d1 (hs1 _ hne); have q2 : W1.cell? ⟨wr.heap.size, 2, none⟩ = some (.int .i64 l[k].seq) := qaf d2 (hs1 _ hne); clear hM1 hmb hMW hs1 hs2; rw [show encD l[k] = .agg #[.int .i64 l[k].dev, .int .i64 l[k].inc, .int .i64 l[k].seq] from rfl] at hlk hlk1 he1; rw [show encJ ((getL M l[k]).getD 0 + 1) = .int .i64 ((getL M l[k]).getD 0 + 1) from rfl] at he2; unfold goInt at he1 he2; go_wp2; go_region_held3 (fun w' => w'.cell? ⟨wr.heap.size, 0, none⟩ = some (.int .i64 l[k].dev) /\ w'.cell? ⟨wr.heap.size, 1, none⟩ = some (.int .i64 l[k].inc) /\ w'.cell? ⟨wr.heap.size, 2, none⟩ = some (.int .i64 l[k].seq)) (simp [*]) (fail)
      all_goals go_wp2
      all_goals (
       go_roundw
       case rel => exact ⟨k + 1, _, hlt, by go_num, hM2, qqy hlt hmem, qsx hml, qr4 hcnt, hB2⟩
       case measure => simp [intOf]; omega)
  · have hkl : k = l.length := by omega
    subst hkl; rw [List.take_length] at hmem; have hmk := qwS w.heap.size wr; go_wp2_with (first
      | (go_at_call 183; refine hmk.mono ?_; rintro e w1 ⟨rfl, rfl⟩; have hsf := qwo (w := wr.alloc (.cells #[.map (some w.heap.size)] 101)) (Bm := wr.heap.size) (by simp) (hM.same (Below.heap_alloc _ _ _ (Go.Gm.MapIs.lt hM))) (Nat.le_trans hml hl))
      | (go_at_call 182; refine hsf.mono ?_; rintro e w2 ⟨v', rfl, hd, hn, hb2⟩))
    go_ret; have heq : qaP qac (M.map (·.1)) = qaP qac l := qfe (qcL _) fun x => by rw [qcY]; exact hmem x
    rw [heq] at hd hn; have hs1 := hbr.size; exact ⟨v', rfl, hd, NewD.mono hn (by simp; omega), hbr.trans (((Below.refl _ _).alloc hs1 _).trans (hb2.mono (by simp; omega)))⟩
end Go.Proofs
namespace Go.Proofs
open Go Go.Am Go.RowKit Go.Sy Go.Gm Go.Maps Go.Sort Go.Shelf
theorem qg9 {P : Program} {ops : Array Oper} {o : Oper} {a : Act} {w : World} {K : Act -> World -> Prop} {Q : Exit -> Act -> World -> Prop} {E : Prop} (hg : o.guard = none) (s x : Operand) (t : TypeId)
  (ho : o.op = .call { callee := .builtin .append, args := #[s, x], argTypes := #[t, t] })
  (base : Nat) (e : TypeId) (i : TypeInfo) (z : Value) (size bytes : Nat) (ht : P.underlying t = some (.slice e)) (hi : P.info? e = some i) (hz : i.zero = some z)
  (hsize : i.size = size) (hby : i.bytes = bytes) (hzs : z.cells.size = size) (hsz : 0 < size)
  (v : Value) (n : Nat) (xs : List Value) (hs : a.eval s = v) (hown : w.ownsRow base e size v n xs)
  (ad : Addr) (m c : Nat) (news : List Value) (hx : a.eval x = .slice (some ad) m c) (hl : news.length = m * size) (hnews : ∀ j u, news[j]? = some u -> w.cell? (ad.add j) = some u) (h1 : ∀ u ∈ news, u.oneCell' = true)
  (h63 : n + m <= maxLen) (hbytes : (n + m) * bytes <= 140737488355328) (hbase : base <= w.heap.size)
  (h : ∀ v' w', w'.ownsRow base e size v' (n + m) (xs ++ news) -> w.grownBy w' v.ownBlock -> K (a.put o.dst v') w') :
  if Region.wanted o (yielded ops a.tmps) = true then Oper.wp P o a w K Q else E := by
 have hw : Region.wanted o (yielded ops a.tmps) = true := by simp [Region.wanted, hg]
 rw [if_pos hw]; exact wp_append_own _ s x t ho base e i z size bytes ht hi hz hsize hby hzs hsz v n xs hs hown ad m c news hx hl hnews h1 h63 hbytes hbase fun v' w' h2 h3 _ => h v' w' h2 h3
def rowC (L : List (CEvent × Value)) : List Value := L.flatMap fun x => qah x.1 x.2
theorem qjU (L : List (CEvent × Value)) (x : CEvent × Value) : rowC (L ++ [x]) = rowC L ++ qah x.1 x.2 := by
 unfold rowC; rw [List.flatMap_append, List.flatMap_cons, List.flatMap_nil, List.append_nil]
theorem qmf (L : List (CEvent × Value)) (i : Nat) (h : i < L.length) (j : Nat) (hj : j < 19) : (rowC L)[i * 19 + j]? = (qah L[i].1 L[i].2)[j]? := by
 induction L generalizing i with
 | nil => exact absurd h (Nat.not_lt_zero _)
 | cons x L ih =>
  have hr : rowC (x :: L) = qah x.1 x.2 ++ rowC L := by unfold rowC; rw [List.flatMap_cons]
  have hl : (qah x.1 x.2).length = 19 := rfl; rw [hr]
  cases i with
  | zero => rw [Nat.zero_mul, Nat.zero_add, List.getElem?_append_left (by omega)]; rfl
  | succ i =>
   rw [List.getElem?_append_right (by omega), hl, show (i + 1) * 19 + j - 19 = i * 19 + j by omega]; exact ih i (by simpa using h)
def EvsN (w : World) (n : Nat) (l : List CEvent) (v : Value) : Prop := ∃ L : List (CEvent × Value), L.map (·.1) = l /\ (∀ x ∈ L, DotsN w n x.1.over x.2) /\ w.ownsRow n 42 19 v L.length (rowC L)
theorem qcn {w w' : World} {base size : Nat} {e : TypeId} {v : Value} {n : Nat} {xs : List Value} (h : w.ownsRow base e size v n xs) (hb : Below w.heap.size w w') : w'.ownsRow base e size v n xs := by
 refine ⟨h.1, ?_⟩; rcases h.2 with hn | ⟨g, cap, cur, hv, hbg, hg, rest⟩
 · exact .inl hn
 · exact .inr ⟨g, cap, cur, hv, hbg, (hb.block g (Array.getElem?_eq_some_iff.1 hg).1).trans hg, rest⟩
theorem qwC {w : World} {bk : Nat} {K : List (CDot × (Value × CEvent))} (hm : MapIs w bk encD qkz K) {d : CDot} {x : Value × CEvent} (hx : getL K d = some x) : (Instr.lookup 99 (.map (some bk)) (encD d) false).run Tryz.prog w = .ok x.1 w := by
 rw [hm.lookup zz11 Tryz.underlying99 (z := qci qkc (.slice none 0 0)) (by kernel_rfl) d false, hx]; rfl
theorem qvB : ∃ i0 z by0, Tryz.prog.info? 42 = some i0 /\ i0.zero = some z /\ i0.size = 19 /\ i0.bytes = by0 /\ z.cells.size = 19 /\ by0 <= 1000 := by
 have h : ((Tryz.prog.info? 42).bind fun i => i.zero.map fun z => (i.size, Nat.ble i.bytes 1000, z.cells.size)) = some (19, true, 19) := by kernel_rfl
 cases e : Tryz.prog.info? 42 with
 | none => rw [e] at h; cases h
 | some i =>
  rw [e] at h
  cases ez : i.zero with
  | none => simp [ez] at h
  | some z =>
   simp only [Option.bind_some, ez, Option.map_some, Option.some.injEq, Prod.mk.injEq] at h; exact ⟨i, z, _, rfl, ez, h.1, rfl, h.2.2, Nat.le_of_ble_eq_true h.2.1⟩
theorem que (e : CEvent) (v : Value) : Array.foldl (fun (cs : Array Value) (x : Value × Nat) => cs.setIfInBounds x.2 x.1) #[.int .i64 0, .int .i64 0, .int .i64 0, .int .i64 0, .int .i64 0, .int .i64 0, .int .i64 0, .string ⟨#[]⟩, .string ⟨#[]⟩, .string ⟨#[]⟩, .string ⟨#[]⟩, .bool false, .bool false, .bool false, .bool false, .int .i64 0, .int .i64 0, .int .i64 0, .slice none 0 0] ((qah e v).toArray.zipIdx) 0 19 = (qah e v).toArray := by kernel_rfl
theorem Tryz.sorted {w : World} {n b bk ba bd bs bv : Nat} {G : GMap} (h : OMW w n b bk ba bd bs bv G) {l : List CDot} {v : Value} (hd : DotsV w l v) (hl : l.length <= 1000000) (f : CDot -> CEvent) (hf : ∀ d ∈ l, ∃ u, getL G.kept d = some (u, f d)) (hov : ∀ d ∈ l, (f d).over.length <= 100000) :
  Calls Tryz.prog 120 #[.pointer (some ⟨b, 0, none⟩), v] w fun e w' => ∃ v', e = .returned v' /\ EvsN w' w.heap.size ((qaP qac l).map f) v' /\ Below w.heap.size w w' := by
 letI : Inhabited DrP := ⟨⟨True, #[]⟩⟩
 have hsort := qwi hd hl; go_enter Tryz.func120, Tryz.ntmps120
 go_wp2_with (go_at_call 156; refine hsort.mono ?_; rintro e w1 ⟨v1, rfl, hd1, hn1, hb1⟩; obtain ⟨sa, sn, sc, rfl⟩ := hd1.one)
 have hsn : sn = (qaP qac l).length := by
  rcases hd1 with ⟨h0, a, c, hh⟩ | ⟨_, _, _, _, _, _, hh, _⟩
  · cases hh; rw [h0]; rfl
  · cases hh; rfl
 subst hsn; go_loopw [5, 11] (fun v i wr => ∃ (k : Nat) (L : List (CEvent × Value)), k <= (qaP qac l).length /\ i = .int .i64 k /\ L.map (·.1) = ((qaP qac l).take k).map f /\ (∀ x ∈ L, DotsN wr w1.heap.size x.1.over x.2) /\ wr.ownsRow w1.heap.size 42 19 v L.length (rowC L) /\ Below w1.heap.size w1 wr)
  (fun _ i _ => (qaP qac l).length - (intOf i).toNat)
 case atStart => exact ⟨0, [], Nat.zero_le _, rfl, rfl, fun x hx => absurd hx (by simp), World.ownsRow_nil _ _ _ _, Below.refl _ _⟩
 case round =>
  obtain ⟨k, L, hk, rfl, hL, hLd, hrow, hbr1⟩ := hrel; have hbr := hb1.trans (hbr1.mono hb1.size); have hsl : (qaP qac l).length <= l.length := by have := qff (less := qac) l []; simpa [qaP] using this
  have hLl : L.length = k := by
    have := congrArg List.length hL; simp only [List.length_map, List.length_take] at this; omega
  by_cases hlt : k < (qaP qac l).length
  · obtain ⟨d, hdk⟩ : ∃ d, (qaP qac l)[k] = d := ⟨_, rfl⟩; have hdl : d ∈ l := by rw [<- qcY (less := qac), <- hdk]; exact List.getElem_mem hlt
    obtain ⟨u, hu⟩ := hf d hdl; have hev0 : EvV w u (f d) := h.ev _ ((qiv h.mkp.nd).1 hu); rcases hd1 with ⟨h0, _⟩ | ⟨ob, off, cap, arr, ty, fz, hh, hob, hcap, hlen, hcells⟩
    · rw [h0] at hlt; exact absurd hlt (Nat.not_lt_zero _)
    · simp only [Value.slice.injEq] at hh; obtain ⟨rfl, -, rfl⟩ := hh; obtain ⟨x0, x1, x2⟩ := hcells k hlt; rw [hdk] at x0 x1 x2; have hobr := (hbr1.block ob (Array.getElem?_eq_some_iff.1 hob).1).trans hob; have cell : ∀ {j : Nat} {u : Value}, arr[j]? = some u -> wr.cell? ⟨ob, j, none⟩ = some u := fun hx => by
       unfold World.cell?; simp only [hobr, Option.isSome_none, Bool.false_eq_true, if_false]; exact hx
      have c0 := cell x0; have c1 := cell x1; have c2 := cell x2; obtain ⟨W, hW⟩ : ∃ W, wr.alloc (.cells #[.int .i64 d.dev, .int .i64 d.inc, .int .i64 d.seq] 35) = W := ⟨_, rfl⟩; have hbW : Below wr.heap.size wr W := by rw [<- hW]; exact (Below.refl _ _).alloc (Nat.le_refl _) _
      have hrowW : W.drew.ownsRow w1.heap.size 42 19 u5 L.length (rowC L) := by rw [<- hW]; exact hrow.alloc _
      have d0 : W.cell? ⟨wr.heap.size, 0, none⟩ = some (.int .i64 d.dev) := by rw [<- hW]; simp
      have d1 : W.cell? ⟨wr.heap.size, 1, none⟩ = some (.int .i64 d.inc) := by rw [<- hW]; simp
      have d2 : W.cell? ⟨wr.heap.size, 2, none⟩ = some (.int .i64 d.seq) := by rw [<- hW]; simp
      have hB : Below w.heap.size w W.drew := (hbr.trans (hbW.mono hbr.size)).drew; have hmb := qaI h.c0; have d3 : W.cell? ⟨b, 0, none⟩ = some (.map (some bk)) := qaf h.c0 (hB.block b hmb); have hmW : MapIs W.drew bk encD qkz G.kept := h.mkp.same (hB.block _ (Go.Gm.MapIs.lt h.mkp)); have hlk := qwC hmW hu; have hcl := qvo (hev0.cells (zz2 hB)) (hov d hdl); rw [show encD d = .agg #[.int .i64 d.dev, .int .i64 d.inc, .int .i64 d.seq] from rfl] at hlk; obtain ⟨i0, z0, by0, hi, hz0, hz1, hz2, hz3, hz4⟩ := qvB; have hWs : wr.heap.size < W.heap.size := by rw [<- hW]; simp
      have hL1 : L.length + 1 <= 1000001 := by omega
      have hbyt : (L.length + 1) * by0 <= 140737488355328 := Nat.le_trans (Nat.mul_le_mul hL1 hz4) (by decide); have hmax : L.length + 1 <= maxLen := by unfold maxLen; omega
      clear hmW hev0 hcells cell hob hobr x0 x1 x2; simp only [] at hlk; go_wp2; go_region_held3 (fun w' => w'.cell? ⟨b, 0, none⟩ = some (.map (some bk)) /\ w'.cell? ⟨wr.heap.size, 0, none⟩ = some (.int .i64 d.dev) /\ w'.cell? ⟨wr.heap.size, 1, none⟩ = some (.int .i64 d.inc) /\ w'.cell? ⟨wr.heap.size, 2, none⟩ = some (.int .i64 d.seq)) (simp [*])
       (first
         | (go_at_call 70; (refine hcl.mono ?_; rintro e' w6 ⟨u', rfl, ⟨v', hu', hd6⟩, hb6⟩; have e3 := qaf d3 (hb6.block _ (by (have := hbr.size; show b < W.heap.size; omega))); have e0 := qaf d0 (hb6.block _ hWs); have e1 := qaf d1 (hb6.block _ hWs); have e2 := qaf d2 (hb6.block _ hWs); have hone : ∀ u ∈ qah (f d) v', u.oneCell' = true := qei (by (obtain ⟨_, _, _, hh⟩ := hd6.one; rw [hh]; rfl)); obtain ⟨cs, hcs⟩ : ∃ cs : Array Value, (qah (f d) v').toArray = cs := ⟨_, rfl⟩; have hcz : cs.size = 19 := (by (rw [<- hcs]; rfl)); have hu2 : u' = .agg cs := (by (rw [hu', <- hcs]; rfl)); clear hu'; subst hu2; have hfo := que (f d) v'; have hra : (w6.alloc (.cells (qah (f d) v').toArray 42)).rangeAt w6.heap.size 0 (qah (f d) v') := qcA w6 (f d) v'; rw [hcs] at hfo hra; have hnl : (qah (f d) v').length = 1 * 19 := rfl; obtain ⟨nw, hnw⟩ : ∃ nw, qah (f d) v' = nw := ⟨_, rfl⟩; rw [hnw] at hone hcs hra hnl; obtain ⟨W7, hW7⟩ : ∃ W7, w6.alloc (.cells cs 42) = W7 := ⟨_, rfl⟩; rw [hW7] at hra; have hnc : ∀ j u, nw[j]? = some u -> W7.cell? ((⟨w6.heap.size, 0, none⟩ : Addr).add j) = some u := (fun j u hj => by (rw [Addr.add_mid]; exact hra j u hj)); have s6 := hb6.size; have s7 : W7.heap.size = w6.heap.size + 1 := (by (subst hW7; exact Array.size_push _)); have hb7 : Below w6.heap.size w6 W7 := (by (rw [<- hW7]; exact (Below.refl _ _).alloc (Nat.le_refl _) _)); have g3 := qaf e3 (hb7.block _ (qaI e3)); have g0 := qaf e0 (hb7.block _ (qaI e0)); have g1 := qaf e1 (hb7.block _ (qaI e0)); have g2 := qaf e2 (hb7.block _ (qaI e0)); have hrow7 := qcn (qcn hrowW hb6) hb7))
         | ((refine qg9 rfl (.tmp 15) (.tmp 23) 22 rfl w1.heap.size 42 i0 z0 19 by0 Tryz.underlying22 hi hz0 hz1 hz2 hz3 (by decide) u5 L.length (rowC L) rfl hrow7 ⟨w6.heap.size, 0, none⟩ 1 1 nw rfl hnl hnc hone hmax hbyt (by (have := hbr1.size; show w1.heap.size <= W7.heap.size; have h6 : W.heap.size <= w6.heap.size := s6; omega)) ?_; intro v8 w8 hrow8 hg8; have k3 := qaf g3 (hg8.block _ (qaI g3) (fun e => by (have := (hrow.lt b e.symm).1; have := hb1.size; omega))); have hne8 : some wr.heap.size ≠ u5.ownBlock := (fun e => by (have := (hrow.lt _ e.symm).2; omega)); have k0 := qaf g0 (hg8.block _ (qaI g0) hne8); have k1 := qaf g1 (hg8.block _ (qaI g0) hne8); have k2 := qaf g2 (hg8.block _ (qaI g0) hne8))))
      have hno : ∀ (b' : Nat) (arr' : Array Value), W7.heap[b']? = some (.cells arr' 35 (0, 0)) -> w8.heap[b']? = W7.heap[b']? := fun b' arr' hx => by
       refine hg8.block b' (Array.getElem?_eq_some_iff.1 hx).1 fun e => ?_
       rcases ownsRow_ne_a hrow7 hx (fun cur e => by have := (Obj.cells.inj e).2.1; exact absurd this (by decide)) with hh | hh
       · rw [hh] at e; cases e
       · exact hh e.symm
      have hn8 : DotsN w8 w1.heap.size (f d).over v' := (hd6.mono (by have := hbr1.size; show w1.heap.size <= W.heap.size; omega)).keep fun b' arr' _ hx => by
       have h7 := hb7.block b' (Array.getElem?_eq_some_iff.1 hx).1; exact (hno b' arr' (h7.trans hx)).trans h7
      have ho8 : ∀ x ∈ L, DotsN w8 w1.heap.size x.1.over x.2 := fun x hx => (hLd x hx).keep fun b' arr' _ hb' => by
       have hlt' := (Array.getElem?_eq_some_iff.1 hb').1; have h7 : W7.heap[b']? = wr.heap[b']? := ((hb7.block b' (by have h6 : W.heap.size <= w6.heap.size := s6; omega)).trans (hb6.block b' (show b' < W.heap.size by omega))).trans (hbW.block b' hlt'); exact (hno b' arr' (h7.trans hb')).trans h7
      have hB8 : Below w1.heap.size w1 w8 := by
       have h1 := hbr1.size; have h6 : W.heap.size <= w6.heap.size := s6; exact (((hbr1.trans (hbW.mono h1)).drew.trans (hb6.mono (show w1.heap.size <= W.heap.size by omega))).trans (hb7.mono (by omega))).grown hg8 (by omega) (fun k e => (hrow.lt k e).1)
      go_wp2; go_roundw
      case rel =>
       refine ⟨k + 1, L ++ [(f d, v')], hlt, by go_num, ?_, ?_, ?_, hB8⟩
       · rw [List.map_append, hL, List.take_succ, List.getElem?_eq_getElem hlt, hdk, List.map_append]; rfl
       · intro x hx; rcases List.mem_append.1 hx with hx | hx
         · exact ho8 x hx
         · rw [List.mem_singleton.1 hx]; exact hn8
       · rw [qjU, List.length_append]; show w8.ownsRow w1.heap.size 42 19 v8 (L.length + 1) (rowC L ++ qah (f d) v')
         rw [hnw]; exact hrow8
      case measure => simp [intOf]; omega
  · have hkl : k = (qaP qac l).length := by omega
    subst hkl; rw [List.take_length] at hL; go_wp2; go_ret; refine ⟨_, rfl, ⟨L, hL, fun x hx => (hLd x hx).mono hb1.size, hrow.1, ?_⟩, hbr⟩; rcases hrow.2 with hn | ⟨g, cap, cur, hv, hbg, rest⟩
    · exact .inl hn
    · exact .inr ⟨g, cap, cur, hv, Nat.le_trans hb1.size hbg, rest⟩
end Go.Proofs
namespace Go.Proofs
open Go Go.Am Go.RowKit Go.Sy Go.Gm Go.Maps Go.Sort Go.Shelf
theorem EvsN.mono {w : World} {n m : Nat} {l : List CEvent} {v : Value} (h : EvsN w n l v) (hm : m <= n) : EvsN w m l v := by
 obtain ⟨L, h1, h2, h3, h4⟩ := h; refine ⟨L, h1, fun x hx => (h2 x hx).mono hm, h3, ?_⟩; rcases h4 with hn | ⟨g, cap, cur, hv, hbg, rest⟩
 · exact .inl hn
 · exact .inr ⟨g, cap, cur, hv, Nat.le_trans hm hbg, rest⟩
theorem qxb {w : World} {n b bk ba bd bs bv : Nat} {G : GMap} (h : OMW w n b bk ba bd bs bv G) (k : CKey) {j : Nat} {I : DL} (hj : getL G.alive k = some (j, I)) (f : CDot -> CEvent) (hI : I.length <= 1000000)
  (hf : ∀ d ∈ I.map (·.1), ∃ u, getL G.kept d = some (u, f d)) (hov : ∀ d ∈ I.map (·.1), (f d).over.length <= 100000) :
  Calls Tryz.prog 78 #[.pointer (some ⟨b, 0, none⟩), encK k] w fun e w' => ∃ v', e = .returned v' /\ EvsN w' w.heap.size ((qaP qac (I.map (·.1))).map f) v' /\ Below w.heap.size w w' := by
 letI : Inhabited DrP := ⟨⟨True, #[]⟩⟩
 obtain ⟨i0, hi, hz0, hz1, hz2⟩ := qvA; have hmI : MapIs w j encD encJ I := h.mi _ ((qiv h.ma.nd).1 hj); obtain ⟨W, hW⟩ : ∃ W, w.alloc (.cells #[.string ⟨k.name.toArray⟩, .string ⟨k.domain.toArray⟩, .string ⟨k.path.toArray⟩] 24) = W := ⟨_, rfl⟩; have hbW : Below w.heap.size w W := by rw [<- hW]; exact (Below.refl _ _).alloc (Nat.le_refl _) _
 have sW : W.heap.size = w.heap.size + 1 := by subst hW; exact Array.size_push _
 have d0 : W.cell? ⟨w.heap.size, 0, none⟩ = some (.string ⟨k.name.toArray⟩) := by rw [<- hW]; simp
 have d1 : W.cell? ⟨w.heap.size, 1, none⟩ = some (.string ⟨k.domain.toArray⟩) := by rw [<- hW]; simp
 have d2 : W.cell? ⟨w.heap.size, 2, none⟩ = some (.string ⟨k.path.toArray⟩) := by rw [<- hW]; simp
 have hB : Below w.heap.size w W.drew := hbW.drew; have d3 : W.cell? ⟨b, 1, none⟩ = some (.map (some ba)) := qaf h.c1 (hB.block b (qaI h.c1)); have hmW : MapIs W.drew ba encK qir G.alive := h.ma.same (hB.block _ (Go.Gm.MapIs.lt h.ma)); have hlk := zz12 hmW k; rw [hj, show encK k = .agg #[.string ⟨k.name.toArray⟩, .string ⟨k.domain.toArray⟩, .string ⟨k.path.toArray⟩] from rfl, Option.map_some] at hlk; have hmIW : MapIs W.drew j encD encJ I := hmI.same (hB.block _ (Go.Gm.MapIs.lt hmI)); obtain ⟨W1, hrg, hit, hb1, hs1⟩ := hmIW.range Tryz.underlying101; rw [show W.drew.heap.size = W.heap.size from rfl] at hrg hit hs1; have hjl := Go.Gm.MapIs.lt hmI; have hbl := qaI h.c1; have e3 := qaf d3 (hb1.block b (show b < W.heap.size by omega)); have e0 := qaf d0 (hb1.block _ (show w.heap.size < W.heap.size by omega)); have e1 := qaf d1 (hb1.block _ (show w.heap.size < W.heap.size by omega)); have e2 := qaf d2 (hb1.block _ (show w.heap.size < W.heap.size by omega)); have hB1 : Below w.heap.size w W1 := hB.trans (hb1.mono (show w.heap.size <= W.heap.size by omega)); rw [show encK k = .agg #[.string ⟨k.name.toArray⟩, .string ⟨k.domain.toArray⟩, .string ⟨k.path.toArray⟩] from rfl]; clear hmW hmIW; go_enter Tryz.func78, Tryz.ntmps78
 go_wp2; go_region_held3 (fun w' => w'.cell? ⟨b, 1, none⟩ = some (.map (some ba)) /\ w'.cell? ⟨w.heap.size, 0, none⟩ = some (.string ⟨k.name.toArray⟩) /\ w'.cell? ⟨w.heap.size, 1, none⟩ = some (.string ⟨k.domain.toArray⟩) /\ w'.cell? ⟨w.heap.size, 2, none⟩ = some (.string ⟨k.path.toArray⟩)) (simp [*]) (fail)
 rw [sW] at hit hs1; clear hrg e0 e1 e2 e3 d0 d1 d2 d3 hlk; go_wp2; go_loopw [5] (fun v wr => ∃ (ss left : DL), IterIs wr (w.heap.size + 1) j encD encJ I ss left /\ ss.length + left.length = I.length /\ wr.ownsRow W1.heap.size 35 3 v ss.length (qas (ss.map (·.1))) /\ Below w.heap.size w wr /\ W1.heap.size <= wr.heap.size)
  (fun _ wr => wr.rangeLeft j (w.heap.size + 1))
 case atStart => exact ⟨[], I, hit, by simp, World.ownsRow_nil _ _ _ _, hB1, Nat.le_refl _⟩
 case round =>
  obtain ⟨ss, left, hrg, hcs, hrow, hbr, hbig⟩ := hrel; go_wp2_with (first
    | (at_next; refine qee _ rfl _ rfl (w.heap.size + 1) j rfl hrg ?_ ?_)
    | go_in)
  · intro hl0 hperm; have hpk : (ss.map (·.1)).Perm (I.map (·.1)) := hperm.map _; have hsl : (ss.map (·.1)).length <= 1000000 := by rw [hpk.length_eq, List.length_map]; exact hI
    have hrow' : wr.ownsRow W1.heap.size 35 3 u5 (ss.map (·.1)).length (qas (ss.map (·.1))) := by rw [List.length_map]; exact hrow
    have hcall := Tryz.sorted (h.below hbr) (qoJ hrow') hsl f (fun d hd => hf d (hpk.mem_iff.1 hd)) (fun d hd => hov d (hpk.mem_iff.1 hd)); go_wp2_with (go_at_call 120; refine hcall.mono ?_; rintro e w2 ⟨v2, rfl, hev, hb2⟩)
    go_ret; have heq : qaP qac (ss.map (·.1)) = qaP qac (I.map (·.1)) := qfe (qcL _) fun x => by rw [qcY]; exact hpk.mem_iff
    rw [heq] at hev; exact ⟨_, rfl, hev.mono hbr.size, hbr.trans (hb2.mono hbr.size)⟩
  · intro d nn left' w2 hrg2 hlt hg2 hs2 hen; rw [show encD d = .agg #[.int .i64 d.dev, .int .i64 d.inc, .int .i64 d.seq] from rfl] at hen ⊢; have hr0 := hrg.isWalk; have hrow2 : w2.ownsRow W1.heap.size 35 3 u5 ss.length (qas (ss.map (·.1))) := hrow.kept (row := some (w.heap.size + 1)) ⟨hg2.os, hg2.tape, hg2.output, hg2.size, fun i hi hne => hg2.block i hi fun e => hne (by rw [e])⟩ (by
     obtain ⟨o, ho, hw⟩ := hr0; exact ownsRow_ne_a hrow ho (fun cur e => by rw [e] at hw; cases hw))
    have hb2 : Below w.heap.size w w2 := hbr.trans ⟨hg2.os, hg2.tape, hg2.output, hg2.size, fun i hi => hg2.block i (Nat.lt_of_lt_of_le hi hbr.size) (by omega)⟩; obtain ⟨X, hX⟩ : ∃ X, (w2.alloc (.cells #[.int .i64 d.dev, .int .i64 d.inc, .int .i64 d.seq] 35)).alloc (.cells #[.int .i64 d.dev, .int .i64 d.inc, .int .i64 d.seq] 35) = X := ⟨_, rfl⟩; have hrow3 : X.ownsRow W1.heap.size 35 3 u5 ss.length (qas (ss.map (·.1))) := by rw [<- hX]; exact (hrow2.alloc _).alloc _
    have hk3 : KeepsWalks w2 X := by rw [<- hX]; exact (KeepsWalks.alloc _ _).trans (KeepsWalks.alloc _ _)
    have hb3 : Below w.heap.size w X := by rw [<- hX]; exact (hb2.alloc hb2.size _).alloc (by have := hb2.size; simp; omega) _
    have hs3 : X.heap.size = wr.heap.size + 2 := by rw [<- hX]; simp; omega
    have hnc : ∀ i u, ([.int .i64 d.dev, .int .i64 d.inc, .int .i64 d.seq] : List Value)[i]? = some u -> X.cell? ((⟨wr.heap.size + 1, 0, none⟩ : Addr).add i) = some u := fun i u hi => by
     rw [Addr.add_lit, <- hX, show wr.heap.size + 1 = (w2.alloc (.cells #[.int .i64 d.dev, .int .i64 d.inc, .int .i64 d.seq] 35)).heap.size from by rw [<- hs2]; exact (Array.size_push _).symm]; match i with
     | 0 => cases hi; simp
     | 1 => cases hi; simp
     | 2 => cases hi; simp
     | _ + 3 => cases hi
    have hone : ∀ u ∈ ([.int .i64 d.dev, .int .i64 d.inc, .int .i64 d.seq] : List Value), u.oneCell' = true := by simp [Value.oneCell']
    have hlen : ss.length + 1 <= I.length := by omega
    have hmax : ss.length + 1 <= maxLen := by unfold maxLen; omega
    go_wp2_with (at_builtin; go_loud (refine wpList_append_own _ rfl _ _ 40 rfl W1.heap.size 35 i0 _ 3 24 Tryz.underlying40 hi hz0 hz1 hz2 rfl (by decide) _ _ _ rfl hrow3 ⟨wr.heap.size + 1, 0, none⟩ 1 1 [.int .i64 d.dev, .int .i64 d.inc, .int .i64 d.seq] rfl rfl hnc hone hmax (by omega) (by omega) ?_; intro v3 w3 hown hg3 hnil))
    have hrg3 := (hrg2.walks hk3).walks (KeepsWalks.of_grownBy hg3 (ownsRow_not_walk_a hrow3)); have hs4 := hg3.size; go_roundw
    case rel => exact ⟨ss ++ [(d, nn)], left', hrg3, by simp; omega, by rw [List.map_append, List.map_cons, List.map_nil, qeO, List.length_append]; exact hown, hb3.grown hg3 hb3.size (fun k e => Nat.le_trans hB1.size (hrow3.lt k e).1), by omega⟩
    case measure => rw [hrg3.left_eq, hrg.left_eq]; omega
theorem qxc {w : World} {n b bk ba bd bs bv : Nat} {G : GMap} (h : OMW w n b bk ba bd bs bv G) (k : CKey) (hj : getL G.alive k = none) :
  Calls Tryz.prog 78 #[.pointer (some ⟨b, 0, none⟩), encK k] w fun e w' => ∃ v', e = .returned v' /\ EvsN w' w.heap.size [] v' /\ Below w.heap.size w w' := by
 letI : Inhabited DrP := ⟨⟨True, #[]⟩⟩
 obtain ⟨W, hW⟩ : ∃ W, w.alloc (.cells #[.string ⟨k.name.toArray⟩, .string ⟨k.domain.toArray⟩, .string ⟨k.path.toArray⟩] 24) = W := ⟨_, rfl⟩; have hbW : Below w.heap.size w W := by rw [<- hW]; exact (Below.refl _ _).alloc (Nat.le_refl _) _
 have sW : W.heap.size = w.heap.size + 1 := by subst hW; exact Array.size_push _
 have d0 : W.cell? ⟨w.heap.size, 0, none⟩ = some (.string ⟨k.name.toArray⟩) := by rw [<- hW]; simp
 have d1 : W.cell? ⟨w.heap.size, 1, none⟩ = some (.string ⟨k.domain.toArray⟩) := by rw [<- hW]; simp
 have d2 : W.cell? ⟨w.heap.size, 2, none⟩ = some (.string ⟨k.path.toArray⟩) := by rw [<- hW]; simp
 have hB : Below w.heap.size w W.drew := hbW.drew; have d3 : W.cell? ⟨b, 1, none⟩ = some (.map (some ba)) := qaf h.c1 (hB.block b (qaI h.c1)); have hmW : MapIs W.drew ba encK qir G.alive := h.ma.same (hB.block _ (Go.Gm.MapIs.lt h.ma)); have hlk := zz12 hmW k; rw [hj, show encK k = .agg #[.string ⟨k.name.toArray⟩, .string ⟨k.domain.toArray⟩, .string ⟨k.path.toArray⟩] from rfl, Option.map_none] at hlk; have hrg := run_range_nilMap (P := Tryz.prog) W.drew 101 _ _ Tryz.underlying101; have hbl := qaI h.c1; obtain ⟨W1, hW1⟩ : ∃ W1, W.drew.alloc (.mapIter none 0 #[] 0) = W1 := ⟨_, rfl⟩; have hb1 : Below W.heap.size W.drew W1 := by rw [<- hW1]; exact (Below.refl W.drew.heap.size W.drew).alloc (Nat.le_refl _) _
 have hnx : ∀ ty, (Instr.next (.pointer (some ⟨w.heap.size + 1, 0, none⟩)) false ty).run Tryz.prog W1 = .ok (.tuple #[.bool false]) W1 := fun ty => by
  have := run_next_nilMap (P := Tryz.prog) W.drew ty 0 0 #[]; rw [show W.drew.heap.size = w.heap.size + 1 from sW, hW1] at this; exact this
 rw [hW1] at hrg; have e3 := qaf d3 (hb1.block b (show b < W.heap.size by omega)); have e0 := qaf d0 (hb1.block _ (show w.heap.size < W.heap.size by omega)); have e1 := qaf d1 (hb1.block _ (show w.heap.size < W.heap.size by omega)); have e2 := qaf d2 (hb1.block _ (show w.heap.size < W.heap.size by omega)); have hB1 : Below w.heap.size w W1 := hB.trans (hb1.mono (show w.heap.size <= W.heap.size by omega)); have hcall := Tryz.sorted (h.below hB1) (l := []) (v := .slice none 0 0) (.inl ⟨rfl, _, _, rfl⟩) (Nat.zero_le _) (fun _ => default) (fun d hd => by cases hd) (fun d hd => by cases hd); rw [show encK k = .agg #[.string ⟨k.name.toArray⟩, .string ⟨k.domain.toArray⟩, .string ⟨k.path.toArray⟩] from rfl]; clear hmW; go_enter Tryz.func78, Tryz.ntmps78
 go_wp2; go_region_held3 (fun w' => w'.cell? ⟨b, 1, none⟩ = some (.map (some ba)) /\ w'.cell? ⟨w.heap.size, 0, none⟩ = some (.string ⟨k.name.toArray⟩) /\ w'.cell? ⟨w.heap.size, 1, none⟩ = some (.string ⟨k.domain.toArray⟩) /\ w'.cell? ⟨w.heap.size, 2, none⟩ = some (.string ⟨k.path.toArray⟩)) (simp [*]) (fail)
 clear hrg e0 e1 e2 e3 d0 d1 d2 d3 hlk; go_wp2; go_loopw [5] (fun v wr => v = .slice none 0 0 /\ wr = W1) (fun _ _ => 0)
 case atStart => exact ⟨rfl, rfl⟩
 case round =>
  obtain ⟨rfl, rfl⟩ := hrel; go_wp2_with (go_at_call 120; go_loud (refine hcall.mono ?_; rintro e w2 ⟨v2, rfl, hev, hb2⟩))
  go_ret; exact ⟨_, rfl, hev.mono hB1.size, hB1.trans (hb2.mono hB1.size)⟩
end Go.Proofs
namespace Go.Proofs
open Go Go.Am Go.RowKit Go.Sy Go.Gm Go.Maps Go.Sort Go.Shelf
theorem qgX {α : Type} [DecidableEq α] : ∀ {l m : List α}, l.Nodup -> (∀ x ∈ l, x ∈ m) -> l.length <= m.length
 | [], _, _, _ => Nat.zero_le _
 | x :: l, m, hn, hs => by
  have hx := hs x List.mem_cons_self; obtain ⟨hxl, hn'⟩ := List.nodup_cons.1 hn; have := qgX (l := l) (m := m.erase x) hn' fun y hy => (List.mem_erase_of_ne (fun e => hxl (by rw [<- e]; exact hy))).2 (hs y (List.mem_cons_of_mem _ hy))
  rw [List.length_erase_of_mem hx] at this; have := List.length_pos_of_mem hx; rw [List.length_cons]; omega
theorem qqn [Inhabited DrP] {G : GMap} {m : CMap} (g : GRel G m) {k : CKey} {x : Nat × DL} (hx : getL G.alive k = some x) (hn : (x.2.map (·.1)).Nodup) : x.2.length <= m.kept.length /\ ∀ d ∈ x.2.map (·.1), ∃ e ∈ keyM m k, e.dot = d := by
 have hm : ∀ d ∈ x.2.map (·.1), ∃ e ∈ keyM m k, e.dot = d := fun d hd => (g.al k d).1 ⟨x, hx, by
  cases e : getL x.2 d with
  | none => exact absurd hd (getL_none.1 e)
  | some _ => rfl⟩
 refine ⟨?_, hm⟩; have h1 : (x.2.map (·.1)).length <= ((keyM m k).map (·.dot)).length := qgX hn fun d hd => by
  obtain ⟨e, he, hed⟩ := hm d hd; exact List.mem_map.2 ⟨e, he, hed⟩
 rw [List.length_map, List.length_map] at h1; exact Nat.le_trans h1 (Nat.le_trans (List.length_filter_le _ _) (List.length_filter_le _ _))
theorem Tryz.key {w : World} {n b bk ba bd bs bv : Nat} {G : GMap} {m : CMap} (h : OMW w n b bk ba bd bs bv G) (g : GRel G m) (ok : okM m) (hov : ∀ e ∈ m.kept, e.over.length <= 100000) (k : CKey) :
  Calls Tryz.prog 78 #[.pointer (some ⟨b, 0, none⟩), encK k] w fun e w' => ∃ v', e = .returned v' /\ EvsN w' w.heap.size (keyM m k) v' /\ Below w.heap.size w w' := by
 letI : Inhabited DrP := ⟨⟨True, #[]⟩⟩
 cases hj : getL G.alive k with
 | none =>
  have he : keyM m k = [] := by
   by_cases h0 : keyM m k = []
   · exact h0
   · have := (qdJ g k).2 h0; rw [hj] at this; cases this
  rw [he]; exact qxc h k hj
 | some x =>
  obtain ⟨j, I⟩ := x; have hnd : (I.map (·.1)).Nodup := (h.mi _ ((qiv h.ma.nd).1 hj)).nd; obtain ⟨hlen, hmem⟩ := qqn g hj hnd; have hfe : ∀ e ∈ keyM m k, (((getL G.kept e.dot).map (·.2)).getD qb1) = e := fun e he => by
   obtain ⟨v, hv⟩ := qlV g he; rw [hv]; rfl
  have hdots := qqo g (k := k) (l := I.map (·.1)) fun d => by
   rw [g.al]; exact ⟨fun hd => hmem d hd, fun ⟨e, he, hed⟩ => by
     obtain ⟨x, hx, hs⟩ := (g.al k d).2 ⟨e, he, hed⟩; rw [hj] at hx; cases hx; by_cases hd : d ∈ I.map (·.1)
     · exact hd
     · rw [getL_none.2 hd] at hs; cases hs⟩
  have hk := qxb h k hj (fun d => ((getL G.kept d).map (·.2)).getD qb1) (by have := ok.kept; have h2 : I.length <= m.kept.length := hlen; omega) (fun d hd => by
     obtain ⟨e, he, rfl⟩ := hmem d hd; obtain ⟨v, hv⟩ := qlV g he; exact ⟨v, by rw [hv]; rfl⟩) (fun d hd => by
     obtain ⟨e, he, rfl⟩ := hmem d hd; show (((getL G.kept e.dot).map (·.2)).getD qb1).over.length <= 100000
     rw [hfe e he]; exact hov e (List.mem_filter.1 (List.mem_filter.1 he).1).1)
  rw [hdots, List.map_map] at hk; rw [show (keyM m k).map ((fun d => ((getL G.kept d).map (·.2)).getD qb1) ∘ (·.dot)) = keyM m k by
   conv => rhs; rw [<- List.map_id (keyM m k)]
   exact List.map_congr_left fun e he => hfe e he] at hk
  exact hk
end Go.Proofs
namespace Go.Proofs
open Go Go.Am Go.RowKit Go.Sy
variable [Inhabited DrP]
noncomputable def qsd (f : FuncId) : Option Con := bif Nat.beq f zz24 then some qi2 else qp0 f
theorem qlH : ∀ g C, qsd g = some C -> CO g C := qab qm8 qil
theorem qqL : CO zz64 qnE := qae (cfg := fun y => cfgE qsd (qaL zz64 4 (qrP y))) zz1 (fun _ => rfl) (fun _ => qlH) (n := 600) (by
 intro (m : CMap) (hm : okM m); have hwl := qey hm
 (conv => whnf)
 refine ⟨m, ?_⟩
 repeat ((conv => whnf); first | refine ⟨rfl, ?_⟩ | refine ⟨trivial, ?_⟩)
 refine ⟨hm, ?_⟩
 (conv => whnf)
 refine ⟨⟨(0 : Nat), Nat.zero_le _, ?_⟩, ?_⟩
 · repeat' (first | exact trivial | exact rfl | ((conv => whnf); first | refine brI (fun _ => ?_) fun _ => ?_ | refine And.intro ?_ ?_))
 intro (x : Nat) hx; have hx : x <= (qaw m).length := hx
 (conv => whnf)
 refine brI (fun hlt => ?_) fun hge => ?_
 · have hlt' : x < (qaw m).length := qad hlt; have hf := qgc CEvent.item hlt'; have hz : (((qaw m).take x).map CEvent.item).length + 1 <= 60000 := by simp; omega
   (conv => whnf)
   refine so_iff.2 ⟨_, qax hlt', ?_⟩
   (conv => whnf)
   refine so_iff.2 ⟨_, qax hlt', ?_⟩
   (conv => whnf)
   refine ⟨(qaw m)[x].item, rfl, ?_⟩
   (conv => whnf)
   refine ck_iff.2 ⟨apI _ hz, ?_⟩
   (conv => whnf)
   refine ck_iff.2 ⟨qam x (by omega), ?_⟩
   (conv => whnf)
   refine ⟨(x + 1 : Nat), hlt', by show (qaw m).length - (x + 1) < (qaw m).length - x; omega, ?_⟩
   repeat' (first | exact trivial | exact rfl | ((conv => whnf); first | refine brI (fun _ => ?_) fun _ => ?_ | refine And.intro ?_ ?_))
   all_goals ((conv => whnf); rw [hf])
 · have hge' : (qaw m).length <= x := qbw hge
   (conv => whnf)
   refine ⟨by rw [List.take_of_length_le hge']; rfl, ?_⟩
   repeat' (first | exact trivial | exact rfl | ((conv => whnf); first | refine brI (fun _ => ?_) fun _ => ?_ | refine And.intro ?_ ?_)))
noncomputable def qse (f : FuncId) : Option Con := bif Nat.beq f zz64 then some qnE else qsd f
theorem qlI : ∀ g C, qse g = some C -> CO g C := qab qqL qlH
theorem qon {m : CMap} (hm : okM m) : (qby m).length <= 50000 := by unfold qby; rw [List.length_map]; exact qey hm
theorem qqV : CO zz65 qnJ := qae (cfg := fun y => cfgE qse (qaL zz65 4 (qrS y))) zz1 (fun _ => rfl) (fun _ => qlI) (n := 600) (by
 rintro ⟨m, now⟩ (hm : okM m); have hil := qon hm
 (conv => whnf)
 refine ⟨m, ?_⟩
 repeat ((conv => whnf); first | refine ⟨rfl, ?_⟩ | refine ⟨trivial, ?_⟩)
 refine ⟨hm, ?_⟩
 (conv => whnf)
 refine ⟨⟨(0 : Nat), Nat.zero_le _, ?_⟩, ?_⟩
 · repeat' (first | exact trivial | exact rfl | ((conv => whnf); first | refine brI (fun _ => ?_) fun _ => ?_ | refine And.intro ?_ ?_))
 intro (x : Nat) hx; have hx : x <= (qby m).length := hx; have hlen := qry (l := qby m) (x := x) (p := fun z : CItem => !qca z.cookie now)
 (conv => whnf)
 refine brI (fun hlt => ?_) fun hge => ?_
 · have hlt' : x < (qby m).length := qad hlt; have hf := qkE (p := fun z : CItem => !qca z.cookie now) hlt'; have mu : (qby m).length - (x + 1) < (qby m).length - x := by omega
   have hz : (((qby m).take x).filter fun z : CItem => !qca z.cookie now).length + 1 <= 60000 := by omega
   (conv => whnf)
   refine so_iff.2 ⟨_, qax hlt', ?_⟩
   (conv => whnf)
   refine ⟨((qby m)[x].cookie, now), ?_⟩
   repeat ((conv => whnf); first | refine ⟨rfl, ?_⟩ | refine ⟨trivial, ?_⟩)
   (conv => whnf)
   refine brI (fun h => ?_) fun h => ?_
   · have h : (!qca (qby m)[x].cookie now) = true := h; simp only [h, if_true] at hf
     (conv => whnf)
     refine so_iff.2 ⟨_, qax hlt', ?_⟩
     (conv => whnf)
     refine ⟨(qby m)[x], rfl, ?_⟩
     (conv => whnf)
     refine ck_iff.2 ⟨apI _ hz, ?_⟩
     (conv => whnf)
     refine ck_iff.2 ⟨qam x (by omega), ?_⟩
     (conv => whnf)
     refine ⟨(x + 1 : Nat), hlt', mu, ?_⟩
     repeat' (first | exact trivial | exact rfl | ((conv => whnf); first | refine brI (fun _ => ?_) fun _ => ?_ | refine And.intro ?_ ?_))
     all_goals ((conv => whnf); rw [hf])
   · have h : (!qca (qby m)[x].cookie now) = false := h; simp only [h, Bool.false_eq_true, if_false, List.append_nil] at hf
     (conv => whnf)
     refine ck_iff.2 ⟨qam x (by omega), ?_⟩
     (conv => whnf)
     refine ⟨(x + 1 : Nat), hlt', mu, ?_⟩
     repeat' (first | exact trivial | exact rfl | ((conv => whnf); first | refine brI (fun _ => ?_) fun _ => ?_ | refine And.intro ?_ ?_))
     all_goals ((conv => whnf); rw [hf])
 · (conv => whnf)
   refine ⟨by rw [qn3 (qbf hge)]; rfl, ?_⟩
   repeat' (first | exact trivial | exact rfl | ((conv => whnf); first | refine brI (fun _ => ?_) fun _ => ?_ | refine And.intro ?_ ?_)))
noncomputable def qt7 (f : FuncId) : Option Con := bif Nat.beq f zz65 then some qnJ else bif Nat.beq f zz79 then some qrq else qse f
theorem qp1 : ∀ g C, qt7 g = some C -> CO g C := qab qqV (qab qsO qlI)
end Go.Proofs
namespace Go.Proofs
open Go Go.Am Go.RowKit Go.Sy Go.Gm Go.Maps Go.Sort Go.Shelf
theorem qtg {w : World} {n : Nat} {l : List CDot} {v : Value} (h : DotsN w n l v) : Up w n (dots l) v := by
 unfold dots; rcases h with ⟨rfl, a, c, rfl⟩ | ⟨b, cap, arr, rfl, hp, hb, hc, hl, hi⟩
 · exact .lst0 rfl a c
 · refine .lst b 0 cap arr 35 (0, 0) 3 (fun i j => (arr[i * 3 + j]?).getD (.bool false)) hp hb (by decide) (by omega) (fun _ _ _ => rfl) hc (fun i x j v hx hv => ?_) (fun i x j v hx hv => ?_) (fun i x j v hx hv => ?_)
   all_goals
    have hil : i < l.length := (List.getElem?_eq_some_iff.1 hx).1; have hxe : l[i] = x := (List.getElem?_eq_some_iff.1 hx).2; obtain ⟨e0, e1, e2⟩ := hi i hil; rw [hxe] at e0 e1 e2; have hj : j < 3 := (List.getElem?_eq_some_iff.1 hv).1; match j, hj with
    | 0, _ => cases hv; first | rfl | exact (by rw [Nat.zero_add, Nat.add_zero, e0]; rfl) | (simp only [Nat.add_zero, e0, Option.getD_some]; exact .int _ _)
    | 1, _ => cases hv; first | rfl | exact (by rw [Nat.zero_add, e1]; rfl) | (simp only [e1, Option.getD_some]; exact .int _ _)
    | 2, _ => cases hv; first | rfl | exact (by rw [Nat.zero_add, e2]; rfl) | (simp only [e2, Option.getD_some]; exact .int _ _)
theorem quT {w : World} {n : Nat} {l : List CEvent} {v : Value} (h : EvsN w n l v) : Up w n (evs' l) v := by
 unfold evs'; obtain ⟨L, rfl, hd, hlen, hr⟩ := h; rcases hr with ⟨rfl, h0⟩ | ⟨g, cap, cur, rfl, hp, hb, hc, hm, hsz, htk⟩
 · exact .lstn (by simpa using h0)
 · rw [show L.length = (L.map (·.1)).length by simp]; have cell : ∀ i (hi : i < L.length) j, j < 19 -> cur[i * 19 + j]? = (qah L[i].1 L[i].2)[j]? := fun i hi j hj => by
     rw [<- qmf L i hi j hj, <- htk, List.getElem?_take, if_pos (by omega), Array.getElem?_toList]
   refine .lst g 0 cap cur 42 (0, 0) 19 (fun i j => (cur[i * 19 + j]?).getD (.bool false)) hp hb (by decide) (by simp; omega) (fun _ _ _ => rfl) (by simpa using hc) (fun i x j v hx hv => ?_) (fun i x j v hx hv => ?_) (fun i x j v hx hv => ?_)
   · have hj : j < 19 := (List.getElem?_eq_some_iff.1 hv).1; match j, hj with
     | 0, _ | 1, _ | 2, _ | 3, _ | 4, _ | 5, _ | 6, _ | 7, _ | 8, _ | 9, _ | 10, _ | 11, _ | 12, _ | 13, _ | 14, _ | 15, _ | 16, _ | 17, _ | 18, _ => cases hv; rfl
   all_goals
     have hil : i < L.length := by simpa using (List.getElem?_eq_some_iff.1 hx).1
     have hxe : L[i].1 = x := by simpa using (List.getElem?_eq_some_iff.1 hx).2
     have hdi := hd _ (List.getElem_mem hil); rw [hxe] at hdi; have hj : j < 19 := (List.getElem?_eq_some_iff.1 hv).1; have hcl := cell i hil j hj; rw [hxe] at hcl
   · rw [Nat.zero_add, hcl, List.getElem?_eq_getElem (show j < (qah x L[i].2).length from hj)]; rfl
   · show Up w n v ((cur[i * 19 + j]?).getD _)
     rw [hcl]; match j, hj with
     | 0, _ | 1, _ | 2, _ | 3, _ | 4, _ | 5, _ | 6, _ | 15, _ | 16, _ | 17, _ => cases hv; exact .int _ _
     | 7, _ | 8, _ | 9, _ | 10, _ => cases hv; exact .str _
     | 11, _ | 12, _ | 13, _ | 14, _ => cases hv; exact .bool _
     | 18, _ => cases hv; exact qtg hdi
variable [Inhabited DrP]
structure Stands (b : Nat) (m : CMap) : Prop where
 ok : okM m
 over : ∀ e ∈ m.kept, e.over.length <= 100000
 at_ : qtA fun w => ∃ n bk ba bd bs bv G, OMW w n b bk ba bd bs bv G /\ GRel G m
def qtT : Con := { Y := Nat × CMap × CKey, pre := fun y => Stands y.1 y.2.1, args := fun y => [.wp ⟨y.1, 0, none⟩, .agg y.2.2.enc], res := fun y => evs' (keyM y.2.1 y.2.2) }
theorem qrH {w : World} {p : Nat -> Prop} {g : Bool} {k : CKey} {v : Value} (h : Rd w p g (.agg k.enc) v) : v = encK k := by
 cases h with
 | @agg cs vs h1 h2 =>
  obtain ⟨l⟩ := vs; match l, h1 with
  | [x, y, z], _ =>
   have e1 := qdN (h2 0 _ _ rfl rfl); have e2 := qdN (h2 1 _ _ rfl rfl); have e3 := qdN (h2 2 _ _ rfl rfl); subst e1 e2 e3; rfl
theorem qux (hdr : ¬ (default : DrP).dr) : CO zz74 qtT := zz86 zz1.ok (by
 rintro ⟨b, m, k⟩ hpre w args hold ⟨h1, h2⟩; match args, h1 with
 | [v, u], _ =>
 have e1 := quL (h2 0 _ _ rfl rfl); have e2 := qrH (h2 1 _ _ rfl rfl); subst e1 e2; obtain ⟨n, bk, ba, bd, bs, bv, G, hO, hG⟩ := hpre.at_ w hold; refine (Tryz.key hO hG hpre.ok hpre.over k).mono ?_; rintro e w' ⟨v', rfl, hv, hb⟩; exact ⟨_, rfl, .inr (quT hv), hb, fun h => (hdr h).elim⟩)
end Go.Proofs
set_option maxHeartbeats 40000000
namespace Go.Proofs
open Go Go.Am Go.RowKit Go.Sy Go.Gm Go.Maps Go.Sort Go.Shelf
variable [Inhabited DrP]
noncomputable def qr7 (f : FuncId) : Option Con := bif Nat.beq f zz74 then some qtT else qt7 f
theorem qlB (hdr : ¬ (default : DrP).dr) : ∀ f C, qr7 f = some C -> CO f C := qab (qux hdr) qp1
def qlo : Con := { Y := Nat × CMap × CKey, pre := fun y => Stands y.1 y.2.1, args := fun y => [.wp ⟨y.1, 0, none⟩, .agg y.2.2.enc], res := fun y => .tup [.agg (qag y.2.1 y.2.2).1.enc, .bool (qag y.2.1 y.2.2).2] }
def qpr (y : Nat × CMap × CKey) : Ann := let l := keyM y.2.1 y.2.2; { α := Nat, ok := fun i => i + 1 <= l.length, μ := fun i => l.length - i, keep := [4, 7], slots := fun i => [(21, evs' (l.drop 1)), (22, i64 (Int.ofNat (l.drop 1).length)), (23, i64 i)], objs := fun i => [(2, .cells ((winL (l.take (i + 1))).getD qb1).enc qrk)] }
theorem qjL (hdr : ¬ (default : DrP).dr) : CO zz21 qlo := qae (cfg := fun y => cfgE qr7 (qaL zz21 6 (qpr y))) zz1 (fun _ => rfl) (fun _ => qlB hdr) (n := 600) (by
 rintro ⟨b, m, k⟩ (hm : Stands b m); have hkl := qgM hm.ok k
 (conv => whnf)
 refine ⟨(b, m, k), ?_⟩
 repeat ((conv => whnf); first | refine ⟨rfl, ?_⟩ | refine ⟨trivial, ?_⟩)
 refine ⟨hm, ?_⟩
 (conv => whnf)
 refine brI (fun h0 => ?_) fun h0 => ?_
 · have he : keyM m k = [] := by
     have h0 : (Int.ofNat (keyM m k).length == 0) = true := h0; simpa using h0
   have hw : qag m k = (qb1, false) := by unfold qag; rw [he]; rfl
   have hw' : qag (b, m, k).2.1 (b, m, k).2.2 = (qb1, false) := hw
   repeat' (first | exact trivial | (with_reducible exact rfl) | ((conv => whnf); first | refine brI (fun _ => ?_) fun _ => ?_ | refine And.intro ?_ ?_))
   all_goals (rw [hw']; try rfl)
 · have hp : 0 < (keyM m k).length := by
     have h0 : (Int.ofNat (keyM m k).length == 0) = false := h0; simp at h0; exact List.length_pos_iff.2 h0
   (conv => whnf)
   refine so_iff.2 ⟨_, qax hp, ?_⟩
   (conv => whnf)
   refine ⟨fun _ => rfl, ck_iff.2 ⟨by rw [Nat.ble_eq]; exact hp, ?_⟩⟩
   (conv => whnf)
   refine ⟨⟨(0 : Nat), hp, ?_⟩, ?_⟩
   · have hw0 : (winL ((keyM m k).take (0 + 1))).getD qb1 = (keyM m k)[0] := by rw [qgl hp]; rfl
     have hw0' : (winL ((keyM (b, m, k).2.1 (b, m, k).2.2).take (0 + 1))).getD qb1 = (keyM m k)[0] := hw0
     repeat' (first | exact trivial | (with_reducible exact rfl) | ((conv => whnf); first | refine brI (fun _ => ?_) fun _ => ?_ | refine And.intro ?_ ?_))
     all_goals first | exact rfl | (rw [hw0']; exact rfl) | ((conv => whnf); exact rfl)
   intro (x : Nat) hx; have hx : x + 1 <= (keyM m k).length := hx
   (conv => whnf)
   refine brI (fun hlt => ?_) fun hge => ?_
   · have hlt' : x < ((keyM m k).drop 1).length := qad hlt; have hx1 : x + 1 < (keyM m k).length := by rw [List.length_drop] at hlt'; omega
     have hel : ((keyM m k).drop 1)[x] = (keyM m k)[x + 1] := by rw [List.getElem_drop]; congr 1; omega
     have hn := qgl hx1; obtain ⟨y, hy⟩ := qfG (Nat.succ_pos x) hx; have hgd : (winL ((keyM m k).take (x + 1))).getD qb1 = y := by rw [hy]; rfl
     rw [hy] at hn; have mu : (keyM m k).length - (x + 1) < (keyM m k).length - x := by omega
     (conv => whnf)
     refine so_iff.2 ⟨_, qax hlt', ?_⟩
     (conv => whnf)
     refine ⟨(((keyM m k).drop 1)[x].stamp, ((winL ((keyM m k).take (x + 1))).getD qb1).stamp), ?_⟩
     repeat ((conv => whnf); first | refine ⟨rfl, ?_⟩ | refine ⟨trivial, ?_⟩)
     (conv => whnf)
     refine br_iff.2 ⟨fun h1 => ?gc, fun h1 => ?gd⟩
     case' gc =>
      have h1 : qa3 (keyM m k)[x + 1].stamp y.stamp = false := by
       have h1 : (!qa3 ((keyM m k).drop 1)[x].stamp ((winL ((keyM m k).take (x + 1))).getD qb1).stamp) = true := h1; rw [hgd, hel] at h1; simpa using h1
      have hw : (winL ((keyM m k).take (x + 1 + 1))).getD qb1 = ((keyM m k).drop 1)[x] := by rw [hn, hel]; simp [h1]
     case' gd =>
      have h1 : qa3 (keyM m k)[x + 1].stamp y.stamp = true := by
       have h1 : (!qa3 ((keyM m k).drop 1)[x].stamp ((winL ((keyM m k).take (x + 1))).getD qb1).stamp) = false := h1; rw [hgd, hel] at h1; simpa using h1
      have hw : (winL ((keyM m k).take (x + 1 + 1))).getD qb1 = (winL ((keyM m k).take (x + 1))).getD qb1 := by rw [hn, hgd]; simp [h1]
     all_goals
      (conv => whnf)
      refine ck_iff.2 ⟨qam x (by omega), ?_⟩
      (conv => whnf)
      refine ⟨(x + 1 : Nat), hx1, mu, ?_⟩
      repeat' (first | exact trivial | (with_reducible exact rfl) | ((conv => whnf); first | refine brI (fun _ => ?_) fun _ => ?_ | refine And.intro ?_ ?_))
      all_goals first | exact rfl | (rw [hw]; exact rfl)
   · have hge' : ((keyM m k).drop 1).length <= x := qbw hge; have e : (keyM m k).take (x + 1) = keyM m k := List.take_of_length_le (by rw [List.length_drop] at hge'; omega); have h2 : (winL (keyM m k)).isSome = true := by
      obtain ⟨y, hy⟩ := qfG (l := keyM m k) (x := (keyM m k).length) hp (Nat.le_refl _); rw [List.take_length] at hy; rw [hy]; rfl
     repeat' (first | exact trivial | (with_reducible exact rfl) | ((conv => whnf); first | refine brI (fun _ => ?_) fun _ => ?_ | refine And.intro ?_ ?_))
     all_goals first | exact rfl | exact h2.symm | (rw [e]; done) | (rw [e]; exact rfl))
end Go.Proofs
set_option maxHeartbeats 4000000
namespace Go.Proofs
open Go Go.Am Go.RowKit Go.Sy Go.Gm Go.Maps Go.Sort Go.Shelf
def qbc : List CKey -> List Value
 | [] => []
 | k :: l => encS k.name :: encS k.domain :: encS k.path :: qbc l
theorem qix (l : List CKey) (x : CKey) : qbc (l ++ [x]) = qbc l ++ [encS x.name, encS x.domain, encS x.path] := by
 induction l with
 | nil => rfl
 | cons k l ih => simp only [List.cons_append, qbc, ih]
theorem qem : ∀ (l : List CKey) (i : Nat) (h : i < l.length), (qbc l)[i * 3]? = some (encS l[i].name) /\ (qbc l)[i * 3 + 1]? = some (encS l[i].domain) /\ (qbc l)[i * 3 + 2]? = some (encS l[i].path)
 | [], i, h => absurd h (Nat.not_lt_zero _)
 | k :: l, 0, _ => ⟨rfl, rfl, rfl⟩
 | k :: l, i + 1, h => by
  obtain ⟨e0, e1, e2⟩ := qem l i (by simpa using h); rw [show (i + 1) * 3 = i * 3 + 3 by omega]; exact ⟨e0, by rw [show i * 3 + 3 + 1 = (i * 3 + 1) + 3 by omega]; exact e1, by rw [show i * 3 + 3 + 2 = (i * 3 + 2) + 3 by omega]; exact e2⟩
theorem qlW (l : List CKey) {j : Nat} (hj : j < l.length * 3) : (qbc l)[j]? = some ((qdd l.toArray[j / 3]!)[j % 3]!) := by
 have hi : j / 3 < l.length := by omega
 obtain ⟨e0, e1, e2⟩ := qem l (j / 3) hi; have hg : l.toArray[j / 3]! = l[j / 3] := by rw [getElem!_pos _ _ (by simpa using hi)]; simp
 rw [hg]; rcases (by omega : j = j / 3 * 3 \/ j = j / 3 * 3 + 1 \/ j = j / 3 * 3 + 2) with e | e | e
 · have hm : j % 3 = 0 := by omega
   rw [hm]; conv => lhs; rw [e]
   exact e0
 · have hm : j % 3 = 1 := by omega
   rw [hm]; conv => lhs; rw [e]
   exact e1
 · have hm : j % 3 = 2 := by omega
   rw [hm]; conv => lhs; rw [e]
   exact e2
theorem qoh {w : World} {g : Nat} {cur : Array Value} {l : List CKey} (hg : w.heap[g]? = some (.cells cur 24 (0, 0))) (h4 : cur.toList.take (l.length * 3) = qbc l) : HoldsK qdd 3 w g 0 l.toArray := by
 intro j hj; have hj' : j < l.length * 3 := by simpa using hj
 have h2 := congrArg (fun l => l[j]?) h4; simp only [List.getElem?_take, if_pos hj', Array.getElem?_toList] at h2; rw [qlW l hj'] at h2; constructor
 · unfold World.cell?
   simp only [hg, Option.isSome_none, Bool.false_eq_true, if_false, Nat.zero_add]; rw [h2, get_flatK qdd 3 l.toArray j (by simpa using hj')]; rfl
 · unfold World.frozen?
   simp [hg]
def KeysAt (w : World) (g : Nat) (l : List CKey) : Prop := ∀ i (h : i < l.length), w.cell? ⟨g, i * 3, none⟩ = some (encS l[i].name) /\ w.cell? ⟨g, i * 3 + 1, none⟩ = some (encS l[i].domain) /\ w.cell? ⟨g, i * 3 + 2, none⟩ = some (encS l[i].path)
theorem qsu {w : World} {g : Nat} {l : List CKey} (h : HoldsK qdd 3 w g 0 l.toArray) : KeysAt w g l := by
 have hcell : ∀ j, j < l.length * 3 -> w.cell? ⟨g, j, none⟩ = (qbc l)[j]? := fun j hj => by
  have := (h j (by simpa using hj)).1; rw [Nat.zero_add] at this; rw [this, qlW l hj, get_flatK qdd 3 l.toArray j (by simpa using hj)]; rfl
 intro i hi; obtain ⟨e0, e1, e2⟩ := qem l i hi; exact ⟨(hcell _ (by omega)).trans e0, (hcell _ (by omega)).trans e1, (hcell _ (by omega)).trans e2⟩
theorem KeysAt.below {w w' : World} {g : Nat} {l : List CKey} (h : KeysAt w g l) (hb : w'.heap[g]? = w.heap[g]?) : KeysAt w' g l := fun i hi => by
 obtain ⟨e0, e1, e2⟩ := h i hi; exact ⟨qaf e0 hb, qaf e1 hb, qaf e2 hb⟩
theorem qnh {l : List CKey} (hn : l.Nodup) {d' : Array CKey} (hp : PermIn 0 l.toArray.size l.toArray d') (hs : SortedIn (ltOf qcN) 0 l.toArray.size d') : d'.toList.Pairwise (fun x y => qa2 x y = true) /\ (∀ x, x ∈ d'.toList ↔ x ∈ l) /\ d'.size = l.length := by
 obtain ⟨h1, _, h3⟩ := hp; have hsz : d'.size = l.length := by simpa using h1
 have hperm : d'.toList.Perm l := by
   rw [show d'.extract 0 l.toArray.size = d' by rw [<- h1]; simp] at h3; simpa using h3
 have hnd : d'.toList.Nodup := hperm.nodup_iff.2 hn; refine ⟨?_, fun x => hperm.mem_iff, hsz⟩; rw [List.pairwise_iff_getElem]; intro i j hi hj hij; simp only [Array.length_toList] at hi hj; have := hs i j (Nat.zero_le _) hij (by simp; omega); rw [getElem!_pos d' j hj, getElem!_pos d' i hi, qgb] at this; have hne : d'[i] ≠ d'[j] := by
   have := List.pairwise_iff_getElem.1 hnd i j (by simpa using hi) (by simpa using hj) hij; simpa using this
 simp only [Array.getElem_toList]; rcases qde d'[i] d'[j] with h | h | h
 · exact h
 · exact absurd h hne
 · rw [this] at h; cases h
theorem qko (w : World) (g off n : Nat) (d : Array CKey) (os : Array Obj) {B : Nat} (hg : B <= g) (hB : B <= w.heap.size) : Below B w (sortWorldK qdd 3 w g off n d os) := by
 refine ⟨rfl, rfl, rfl, size_sortWorldK_c qdd 3 w g off n d os, fun k hk => ?_⟩; unfold sortWorldK grow putRowK putRow mapBlock Sort.ahead; simp only; rw [Array.getElem?_append_left (by simp; omega)]; rw [Array.getElem?_modify]; rw [if_neg (by omega)]
theorem qwc {w : World} {base : Nat} {v : Value} {l : List CKey} (hn : l.Nodup) (h : w.ownsRow base 24 3 v l.length (qbc l)) (hl : l.length <= 1000000) (hbase : base <= w.heap.size) :
   Calls Tryz.prog 122 #[v, .func (.func 123) #[] #[]] w fun e w' => e = .returned (.tuple #[]) /\ Below base w w' /\ ∃ ks : List CKey, ks.Pairwise (fun x y => qa2 x y = true) /\ (∀ x, x ∈ ks ↔ x ∈ l) /\ ks.length = l.length /\ (ks = [] \/ ∃ g cap, v = .slice (some ⟨g, 0, none⟩) l.length cap /\ base <= g /\ g < w'.heap.size /\ KeysAt w' g ks) := by
 rcases h.2 with ⟨rfl, h0⟩ | ⟨g, cap, cur, rfl, hbg, hg, h1, h2, h3, h4⟩
 · have hl0 : l = [] := List.length_eq_zero_iff.1 h0; subst hl0; refine (qwF w).mono ?_; rintro e w' ⟨rfl, hb⟩; exact ⟨rfl, hb.mono hbase, [], List.Pairwise.nil, fun _ => Iff.rfl, rfl, .inl rfl⟩
 · have hgl := (Array.getElem?_eq_some_iff.1 hg).1; have hs := qwV g 0 cap l.toArray w (qoh hg h4) hgl (by simp; omega); rw [show l.toArray.size = l.length by simp] at hs; refine hs.mono ?_; rintro e w' ⟨rfl, d', n, os, hp, hso, rfl⟩; obtain ⟨hd, hmem, hsz⟩ := qnh hn (d' := d') (by simpa using hp) (by simpa using hso); have hH := holdsK_sortWorldK_c qdd 3 w g 0 l.toArray d' n os (qoh hg h4) hgl (by simp [hsz]); have hb := qko w g 0 n d' os hbg hbase; exact ⟨rfl, hb, d'.toList, hd, hmem, by simpa using hsz, .inr ⟨g, cap, rfl, hbg, Nat.lt_of_lt_of_le hgl hb.size, qsu (by simpa using hH)⟩⟩
end Go.Proofs
namespace Go.Proofs
open Go Go.Am Go.RowKit Go.Sy Go.Gm Go.Maps Go.Sort Go.Shelf
def DotsU (w : World) (p : Nat -> Prop) (l : List CDot) (v : Value) : Prop := (l = [] /\ ∃ a c, v = .slice a 0 c) \/ ∃ b off cap arr e fz, v = .slice (some ⟨b, off, none⟩) l.length cap /\ p b /\ w.heap[b]? = some (.cells arr e fz) /\ l.length <= cap /\ off + l.length * 3 <= arr.size /\
 ∀ i (h : i < l.length), arr[off + i * 3]? = some (.int .i64 l[i].dev) /\ arr[off + i * 3 + 1]? = some (.int .i64 l[i].inc) /\ arr[off + i * 3 + 2]? = some (.int .i64 l[i].seq)
theorem DotsU.one {w : World} {p : Nat -> Prop} {l : List CDot} {v : Value} (h : DotsU w p l v) : ∃ a n c, v = .slice a n c := by
 rcases h with ⟨_, a, c, rfl⟩ | ⟨_, _, _, _, _, _, rfl, _⟩ <;> exact ⟨_, _, _, rfl⟩
theorem DotsU.keep {w w' : World} {p q : Nat -> Prop} {l : List CDot} {v : Value} (h : DotsU w p l v) (hs : ∀ b, p b -> b < w.heap.size -> q b /\ w'.heap[b]? = w.heap[b]?) : DotsU w' q l v := by
 rcases h with h | ⟨b, off, cap, arr, e, fz, rfl, hp, hb, hr⟩
 · exact .inl h
 · obtain ⟨h1, h2⟩ := hs b hp (Array.getElem?_eq_some_iff.1 hb).1; exact .inr ⟨b, off, cap, arr, e, fz, rfl, h1, h2.trans hb, hr⟩
theorem qp5 [Inhabited DrP] {w : World} {p : Nat -> Prop} {g : Bool} {l : List CDot} {v : Value} (h : Rd w p g (dots l) v) : DotsU w p l v := by
 unfold dots at h
 cases h with
 | lstn h0 => exact .inl ⟨List.length_eq_zero_iff.1 h0, _, _, rfl⟩
 | lst0 h h0 a c => exact .inl ⟨List.length_eq_zero_iff.1 h0, _, _, rfl⟩
 | lst b off cap arr e fz sz u hp hb hs hl hn hc h1 h2 =>
  by_cases h0 : l = []
  · subst h0; exact .inl ⟨rfl, _, _, rfl⟩
  · have hsz : sz = 3 := by
     obtain ⟨x, l', rfl⟩ := List.exists_cons_of_ne_nil h0; exact (hn 0 x rfl).symm
    subst hsz; refine .inr ⟨b, off, cap, arr, e, fz, rfl, hp, hb, hc, hl, fun i hi => ?_⟩; have hx : l[i]? = some l[i] := List.getElem?_eq_getElem hi; have e0 := h1 i _ 0 _ hx rfl; have e1 := h1 i _ 1 _ hx rfl; have e2 := h1 i _ 2 _ hx rfl; rw [qbd (h2 i _ 0 _ hx rfl)] at e0; rw [qbd (h2 i _ 1 _ hx rfl)] at e1; rw [qbd (h2 i _ 2 _ hx rfl)] at e2; exact ⟨e0, e1, e2⟩
def EvU (w : World) (p : Nat -> Prop) (u : Value) (e : CEvent) : Prop := ∃ v, u = qci e v /\ DotsU w p e.over v
theorem qub [Inhabited DrP] {w : World} {p : Nat -> Prop} {g : Bool} {e : CEvent} {u : Value} (h : Rd w p g (.agg e.enc) u) : EvU w p u e := by
 cases h with
 | @agg cs vs h1 h2 =>
  obtain ⟨l⟩ := vs; have hlen : l.length = 19 := h1.symm; match l, hlen with
  | [a0, a1, a2, a3, a4, a5, a6, a7, a8, a9, a10, a11, a12, a13, a14, a15, a16, a17, a18], _ =>
   have e0 := qbd (h2 0 _ _ rfl rfl); have e1 := qbd (h2 1 _ _ rfl rfl); have e2 := qbd (h2 2 _ _ rfl rfl); have e3 := qbd (h2 3 _ _ rfl rfl); have e4 := qbd (h2 4 _ _ rfl rfl); have e5 := qbd (h2 5 _ _ rfl rfl); have e6 := qbd (h2 6 _ _ rfl rfl); have e7 := qdN (h2 7 _ _ rfl rfl); have e8 := qdN (h2 8 _ _ rfl rfl); have e9 := qdN (h2 9 _ _ rfl rfl); have e10 := qdN (h2 10 _ _ rfl rfl); have e11 := qd4 (h2 11 _ _ rfl rfl); have e12 := qd4 (h2 12 _ _ rfl rfl); have e13 := qd4 (h2 13 _ _ rfl rfl); have e14 := qd4 (h2 14 _ _ rfl rfl); have e15 := qbd (h2 15 _ _ rfl rfl); have e16 := qbd (h2 16 _ _ rfl rfl); have e17 := qbd (h2 17 _ _ rfl rfl); have e18 := qp5 (h2 18 _ _ rfl rfl); subst e0 e1 e2 e3 e4 e5 e6 e7 e8 e9 e10 e11 e12 e13 e14 e15 e16 e17; exact ⟨a18, rfl, e18⟩
theorem qoO [Inhabited DrP] {w : World} {p : Nat -> Prop} {g : Bool} {e : CEvent} {b : Bool} {v : Value} (h : Rd w p g (.tup [.agg e.enc, .bool b]) v) : ∃ u, v = .tuple #[u, .bool b] /\ EvU w p u e := by
 cases h with
 | @tup cs vs h1 h2 =>
  obtain ⟨l⟩ := vs; match l, h1 with
  | [x, y], _ =>
   have e2 := qd4 (h2 1 _ _ rfl rfl); subst e2; exact ⟨x, rfl, qub (h2 0 _ _ rfl rfl)⟩
theorem qmF {wr W8 w9 : World} {base sz n m lo : Nat} {ty : TypeId} {v v9 : Value} {xs : List Value} (hrow : wr.ownsRow base ty sz v n xs) (h8 : Below wr.heap.size wr W8) (hg : W8.grownBy w9 v.ownBlock) (hat : v9.ownBlock = v.ownBlock \/ v9.ownBlock = some W8.heap.size)
   {L : List (CEvent × Value)} (hL : ∀ x ∈ L, DotsU wr (fun b => m <= b /\ some b ≠ v.ownBlock) x.1.over x.2) {e : CEvent} {v' : Value} (hlo : wr.heap.size <= lo) (hm : m <= lo) (hn : DotsU W8 (fun b => lo <= b) e.over v') :
   ∀ x ∈ L ++ [(e, v')], DotsU w9 (fun b => m <= b /\ some b ≠ v9.ownBlock) x.1.over x.2 := by
 have key : ∀ b, b < W8.heap.size -> some b ≠ v.ownBlock -> some b ≠ v9.ownBlock /\ w9.heap[b]? = W8.heap[b]? := fun b hb hne => by
   refine ⟨?_, hg.block b hb hne⟩; rcases hat with h | h
   · rw [h]; exact hne
   · rw [h]; intro e; cases e; exact absurd hb (Nat.lt_irrefl _)
 have hs := h8.size; intro x hx; rcases List.mem_append.1 hx with hx | hx
 · refine (hL x hx).keep fun b hp hb => ?_
   obtain ⟨k1, k2⟩ := key b (by omega) hp.2; exact ⟨⟨hp.1, k1⟩, k2.trans (h8.block b hb)⟩
 · rw [List.mem_singleton.1 hx]; refine hn.keep fun b hp hb => ?_
   have hp : lo <= b := hp; obtain ⟨k1, k2⟩ := key b hb (fun e => by have := (hrow.lt b e.symm).2; omega); exact ⟨⟨Nat.le_trans hm hp, k1⟩, k2⟩
theorem OldW.below [Inhabited DrP] {w w' : World} (h : OldW w) (hb : Below w.heap.size w w') : OldW w' := fun b hlt => (hb.block b (h.lt hlt)).trans (h b hlt)
theorem qwI [Inhabited DrP] (hdr : ¬ (default : DrP).dr) {b : Nat} {m : CMap} (hS : Stands b m) (k : CKey) {w : World} (hw : OldW w) :
  Calls Tryz.prog 75 #[.pointer (some ⟨b, 0, none⟩), encK k] w fun e w' => ∃ u, e = .returned (.tuple #[u, .bool (qag m k).2]) /\ EvU w' (fun b => w.heap.size <= b) u (qag m k).1 /\ Below w.heap.size w w' := by
 have h := qwd zz1.ok (qjL hdr) (fn := Tryz.f75) (hfn := by kernel_rfl) (hb := rfl) (y := (b, m, k)) hS (args := [.pointer (some ⟨b, 0, none⟩), .agg (qdd k).toArray]) (w := w) (PL.cons (.wp _) (PL.cons (qiL k) PL.nil)) hw; refine Calls.mono h ?_; rintro e w' ⟨v, rfl, hv, hbel, _⟩; obtain ⟨u, rfl, hu⟩ := qoO hv; exact ⟨u, rfl, hu, hbel⟩
theorem qwN : ∃ i0, Tryz.prog.info? 24 = some i0 /\ i0.zero = some (.agg #[.string ⟨#[]⟩, .string ⟨#[]⟩, .string ⟨#[]⟩]) /\ i0.size = 3 /\ i0.bytes = 48 := by
 have h : (Tryz.prog.info? 24).map (fun i => (i.zero, i.size, i.bytes)) = some (some (.agg #[.string ⟨#[]⟩, .string ⟨#[]⟩, .string ⟨#[]⟩]), 3, 48) := by kernel_rfl
 cases e : Tryz.prog.info? 24 with
 | none => rw [e] at h; cases h
 | some i => rw [e] at h; simp only [Option.map_some, Option.some.injEq, Prod.mk.injEq] at h; exact ⟨i, rfl, h.1, h.2.1, h.2.2⟩
theorem qw6 (w5 : World) (e : CEvent) (v : Value) (hv : v.oneCell' = true) : ∃ W7, (storeCells ⟨w5.heap.size, 0, none⟩ (qah e v).toArray.toList).run Tryz.prog (w5.alloc (.cells zeroC 42)) = .ok () W7 /\ (loadCellsFrom ⟨w5.heap.size, 0, none⟩ 0 19 #[]).run Tryz.prog W7 = .ok (qah e v).toArray W7 /\ Below w5.heap.size w5 W7 /\ W7.heap.size = w5.heap.size + 1 := by
 have hth : (w5.alloc (.cells zeroC 42)).there w5.heap.size 0 19 := qdO w5 zeroC; obtain ⟨_, hst⟩ := qvw (e := e) (v := v) hv hth; have r5 := World.rangeAt_setCells_same (w5.alloc (.cells zeroC 42)) w5.heap.size 0 (qah e v) hth; refine ⟨_, hst, zz97 r5, qb2 (Nat.le_refl _) _ _ _ ((Below.refl w5.heap.size w5).alloc (Nat.le_refl _) _), ?_⟩; rw [qfc]; exact Array.size_push _
theorem qsp (e : CEvent) (v : Value) (mm : Nat) (h : mm = 19) : Array.foldl (fun (cs : Array Value) (x : Value × Nat) => cs.setIfInBounds x.2 x.1) (Array.map (fun x => ([.int .i64 0, .int .i64 0, .int .i64 0, .int .i64 0, .int .i64 0, .int .i64 0, .int .i64 0, .string ⟨#[]⟩, .string ⟨#[]⟩, .string ⟨#[]⟩, .string ⟨#[]⟩, .bool false, .bool false, .bool false, .bool false, .int .i64 0, .int .i64 0, .int .i64 0, .slice none 0 0] : List Value)[x % 19]?.getD default) (Array.range mm)) ((qah e v).toArray.zipIdx) 0 mm = (qah e v).toArray := by
 subst h; kernel_rfl
theorem qpe {P : Program} {ops : Array Oper} {Q : Exit -> Act -> World -> Prop} {rest : List Oper} {a : Act} {W W' : World} (h : W = W') (hk : wpList P ops Q rest a W') : wpList P ops Q rest a W := h ▸ hk
theorem qmp [Inhabited DrP] {G : GMap} {m : CMap} (g : GRel G m) (hn : (G.alive.map (·.1)).Nodup) : G.alive.length <= m.kept.length := by
 have := qgX (m := m.kept.map (·.key)) hn fun k hk => by
  have hs : (getL G.alive k).isSome = true := by
   cases e : getL G.alive k with
   | none => exact absurd hk (getL_none.1 e)
   | some _ => rfl
  obtain ⟨e, he⟩ := List.exists_mem_of_ne_nil _ ((qdJ g k).1 hs); have h2 := List.mem_filter.1 he; exact List.mem_map.2 ⟨e, (List.mem_filter.1 h2.1).1, by simpa using h2.2⟩
 simpa using this
theorem qwr [Inhabited DrP] (hdr : ¬ (default : DrP).dr) {b : Nat} {m : CMap} (hS : Stands b m) {w : World} (hw : OldW w) :
  Calls Tryz.prog 80 #[.pointer (some ⟨b, 0, none⟩)] w fun e w' => ∃ v L, e = .returned v /\ L.map (·.1) = qaw m /\ (∀ x ∈ L, DotsU w' (fun b => w.heap.size <= b) x.1.over x.2) /\ w'.ownsRow w.heap.size 42 19 v L.length (rowC L) /\ Below w.heap.size w w' := by
 obtain ⟨i0, hi, hz0, hz1, hz2⟩ := qwN; obtain ⟨n, bk, ba, bd, bs, bv, G, hO, hG⟩ := hS.at_ w hw; have hA : G.alive.length <= 50000 := Nat.le_trans (qmp hG hO.ma.nd) hS.ok.kept; have c1 := hO.c1; go_enter Tryz.func80, Tryz.ntmps80
 go_wp2_with (first
  | (at_range; refine qhf _ rfl _ 100 rfl Tryz.underlying100 ba rfl hO.ma ?_; intro w1 hit hb1 hs1)
  | go_in)
 go_frame
 have hbl := qaI c1; go_loopw [3] (fun v wr => ∃ (ss left : List (CKey × (Nat × DL))), IterIs wr w.heap.size ba encK qir G.alive ss left /\ ss.length + left.length = G.alive.length /\ wr.ownsRow w1.heap.size 24 3 v ss.length (qbc (ss.map (·.1))) /\ Below w.heap.size w wr /\ w1.heap.size <= wr.heap.size)
  (fun _ wr => wr.rangeLeft ba w.heap.size)
 case atStart => exact ⟨[], G.alive, hit, by simp, World.ownsRow_nil _ _ _ _, hb1, Nat.le_refl _⟩
 case round =>
  obtain ⟨ss, left, hrg, hcs, hrow, hbr, hbig⟩ := hrel; go_wp2_with (first
    | (at_next; refine qee _ rfl _ rfl w.heap.size ba rfl hrg ?_ ?_)
    | go_in)
  · intro hl0 hperm; have hpk : (ss.map (·.1)).Perm (G.alive.map (·.1)) := hperm.map _; have hnd : (ss.map (·.1)).Nodup := hpk.nodup_iff.2 hO.ma.nd; have hsl : (ss.map (·.1)).length <= 1000000 := by rw [hpk.length_eq, List.length_map]; omega
    have hrow' : wr.ownsRow w1.heap.size 24 3 u3 (ss.map (·.1)).length (qbc (ss.map (·.1))) := by rw [List.length_map]; exact hrow
    obtain ⟨sa, sc, rfl⟩ : ∃ sa sc, u3 = .slice sa ss.length sc := by
     rcases hrow.2 with ⟨h1, h2⟩ | ⟨g, cap, _, h1, _⟩
     · exact ⟨none, 0, by rw [h2]; exact h1⟩
     · exact ⟨_, _, h1⟩
    have hcall := qwc hnd hrow' hsl hbig; go_wp2_with (go_at_call 122; go_loud (refine hcall.mono ?_; rintro e w2 ⟨rfl, hb2, ks, hso, hmem, hlen, hks⟩))
    rw [List.length_map] at hlen hks; have hB2 : Below w.heap.size w w2 := hbr.trans (hb2.mono hb1.size); have hw2 : OldW w2 := OldW.below hw hB2; obtain ⟨i4, z4, by4, hi4, hz40, hz41, hz42, hz43, hz44⟩ := qvB; go_loopw [5, 29] (fun v i wr => ∃ (j : Nat) (L : List (CEvent × Value)), j <= ss.length /\ i = .int .i64 j /\ L.map (·.1) = (ks.take j).map (fun k => (qag m k).1) /\ (∀ x ∈ L, DotsU wr (fun b => w2.heap.size <= b /\ some b ≠ v.ownBlock) x.1.over x.2) /\ wr.ownsRow w2.heap.size 42 19 v L.length (rowC L) /\ Below w2.heap.size w2 wr)
     (fun _ i _ => ss.length - (intOf i).toNat)
    case atStart => exact ⟨0, [], Nat.zero_le _, rfl, rfl, fun x hx => absurd hx (by simp), World.ownsRow_nil _ _ _ _, Below.refl _ _⟩
    case round =>
     obtain ⟨j, L, hj, rfl, hL, hLd, hrowL, hbj⟩ := hrel; have hbw : Below w.heap.size w wr := hB2.trans (hbj.mono hB2.size); have hLl : L.length = j := by
       have := congrArg List.length hL; simp only [List.length_map, List.length_take] at this; omega
     by_cases hlt : j < ss.length
     · have hltk : j < ks.length := by omega
       obtain ⟨g, cap, hv, hbg, hg2, hka⟩ : ∃ g cap, (Value.slice sa ss.length sc) = .slice (some ⟨g, 0, none⟩) ss.length cap /\ w1.heap.size <= g /\ g < w2.heap.size /\ KeysAt w2 g ks := hks.resolve_left (fun e => by rw [e] at hltk; exact absurd hltk (Nat.not_lt_zero _)); simp only [Value.slice.injEq] at hv; obtain ⟨rfl, -, rfl⟩ := hv; obtain ⟨c0, c1', c2⟩ := hka.below (hbj.block g hg2) j hltk; obtain ⟨k, hk⟩ : ∃ k, ks[j] = k := ⟨_, rfl⟩; rw [hk] at c0 c1' c2; obtain ⟨W, hW⟩ : ∃ W, wr.alloc (.cells #[.string ⟨k.name.toArray⟩, .string ⟨k.domain.toArray⟩, .string ⟨k.path.toArray⟩] 24) = W := ⟨_, rfl⟩; have hbW : Below wr.heap.size wr W := by rw [<- hW]; exact (Below.refl _ _).alloc (Nat.le_refl _) _
       have d0 : W.cell? ⟨wr.heap.size, 0, none⟩ = some (.string ⟨k.name.toArray⟩) := by rw [<- hW]; simp
       have d1 : W.cell? ⟨wr.heap.size, 1, none⟩ = some (.string ⟨k.domain.toArray⟩) := by rw [<- hW]; simp
       have d2 : W.cell? ⟨wr.heap.size, 2, none⟩ = some (.string ⟨k.path.toArray⟩) := by rw [<- hW]; simp
       have hcall := qwI hdr hS k (w := W) (OldW.below hw (hbw.trans (hbW.mono hbw.size))); rw [show encK k = .agg #[.string ⟨k.name.toArray⟩, .string ⟨k.domain.toArray⟩, .string ⟨k.path.toArray⟩] from rfl] at hcall; obtain ⟨SZ, mm, hSZ, hsz, hm⟩ := qeV; have hz0' : zeroC = zeroC := rfl; have hm0 : ¬ mm = 0 := by have h : mm = 19 := hm; omega
       have hmx : ¬ 16777216 < mm := by have h : mm = 19 := hm; omega
       have hL1 : L.length + 1 <= 1000001 := by omega
       have hbyt : (L.length + 1) * by4 <= 140737488355328 := Nat.le_trans (Nat.mul_le_mul hL1 hz44) (by decide); have hmax : L.length + 1 <= maxLen := by unfold maxLen; omega
       clear hz0'; go_wp2_with (first
         | (go_at_call 75; (refine hcall.mono ?_; rintro e w5 ⟨u, rfl, ⟨v', hu', hd5⟩, hb5⟩; obtain ⟨W7, hst, hld, hb7, hs7⟩ := qw6 w5 (qag m k).1 v' (by (obtain ⟨_, _, _, hh⟩ := hd5.one; rw [hh]; rfl)); have hone : ∀ u ∈ qah (qag m k).1 v', u.oneCell' = true := qei (by (obtain ⟨_, _, _, hh⟩ := hd5.one; rw [hh]; rfl)); obtain ⟨cs, hcs⟩ : ∃ cs : Array Value, (qah (qag m k).1 v').toArray = cs := ⟨_, rfl⟩; have hcz : cs.size = 19 := (by (rw [<- hcs]; rfl)); have hu2 : u = .agg cs := (by (rw [hu', <- hcs]; rfl)); clear hu'; subst hu2; have hfo := qsp (qag m k).1 v' mm hm; have hnl : (qah (qag m k).1 v').length = 1 * 19 := rfl; rw [hcs] at hfo hst hld; obtain ⟨nw, hnw⟩ : ∃ nw, qah (qag m k).1 v' = nw := ⟨_, rfl⟩; rw [hnw] at hone hcs hnl; rw [<- (hm : mm = 19)] at hld hcz; unfold zeroC at hst; obtain ⟨W8, hW8⟩ : ∃ W8, W7.alloc (.cells cs 42) = W8 := ⟨_, rfl⟩; have hb8 : Below W7.heap.size W7 W8 := (by (rw [<- hW8]; exact (Below.refl _ _).alloc (Nat.le_refl _) _)); have hra : W8.rangeAt W7.heap.size 0 nw := (by (rw [<- hW8, <- hcs, <- hnw]; exact qcA W7 (qag m k).1 v')); have hnc : ∀ j u, nw[j]? = some u -> W8.cell? ((⟨w5.heap.size + 1, 0, none⟩ : Addr).add j) = some u := (fun j u hj => by (rw [Addr.add_mid, <- hs7]; exact hra j u hj)); have hrow8 := qcn (qcn (qcn (qcn hrowL hbW) hb5) hb7) hb8; have s5 := hb5.size; have s8 := hb8.size))
         | (at_builtin; go_loud ((first | refine qpe (W' := W8) (by (rw [<- hW8]; exact congrArg (fun x => W7.alloc (.cells x 42)) hfo)) ?_ | skip); refine wpList_append_own_at _ rfl _ _ 22 rfl w2.heap.size 42 i4 _ 19 by4 Tryz.underlying22 hi4 hz40 hz41 hz42 hz43 (by decide) _ _ _ rfl hrow8 ⟨w5.heap.size + 1, 0, none⟩ 1 1 nw rfl hnl hnc hone hmax hbyt (by (have := hbj.size; have := hbW.size; omega)) ?_; intro v9 w9 hrow9 hg9 hnil9 hat9)))
       refine ⟨⟨j + 1, L ++ [((qag m k).1, v')], hlt, by go_num, ?_, ?_, ?_, ?_⟩, ?_⟩
       · rw [List.map_append, hL, List.take_succ, List.getElem?_eq_getElem hltk, hk, List.map_append]; rfl
       · have h1 := hbW.size; have h2 := hb5.size; refine qmF hrowL (((hbW.trans (hb5.mono h1)).trans (hb7.mono (by omega))).trans (hb8.mono (by omega))) hg9 hat9 hLd h1 (by have := hbj.size; omega) (hd5.keep fun b hp hb => ⟨hp, ?_⟩); exact (hb8.block b (Nat.lt_of_lt_of_le hb hb7.size)).trans (hb7.block b hb)
       · rw [qjU, List.length_append]; show w9.ownsRow w2.heap.size 42 19 v9 (L.length + 1) (rowC L ++ qah (qag m k).1 v')
         rw [hnw]; exact hrow9
       · have h1 := hbj.size; have h2 := hbW.size; exact ((((hbj.trans (hbW.mono h1)).trans (hb5.mono (by omega))).trans (hb7.mono (by omega))).trans (hb8.mono (by omega))).grown hg9 (by omega) (fun k e => (hrow8.lt k e).1)
       · simp [intOf]; omega
     · have hjl : j = ss.length := by omega
       subst hjl; have hall : ks.take ss.length = ks := List.take_of_length_le (by omega); rw [hall, qnk hG hso fun k => by
         rw [hmem, hpk.mem_iff]
         cases e : getL G.alive k with
         | none => exact ⟨fun h => absurd h (getL_none.1 e), fun h => by cases h⟩
         | some x => exact ⟨fun _ => rfl, fun _ => by
          by_cases h : k ∈ G.alive.map (·.1)
          · exact h
          · rw [getL_none.2 h] at e; cases e⟩] at hL
       go_wp2; go_ret; refine ⟨_, L, rfl, hL, fun x hx => (hLd x hx).keep fun b hp _ => ⟨Nat.le_trans hB2.size hp.1, rfl⟩, ⟨hrowL.1, ?_⟩, hbw⟩; rcases hrowL.2 with hn | ⟨g, cap, cur, hv, hbg, rest⟩
       · exact .inl hn
       · exact .inr ⟨g, cap, cur, hv, Nat.le_trans hB2.size hbg, rest⟩
  · intro k jI jL left' w2 hrg2 hlt hg2 hs2 hen; rw [show encK k = .agg #[.string ⟨k.name.toArray⟩, .string ⟨k.domain.toArray⟩, .string ⟨k.path.toArray⟩] from rfl] at hen ⊢; have hr0 := hrg.isWalk; have hrow2 : w2.ownsRow w1.heap.size 24 3 u3 ss.length (qbc (ss.map (·.1))) := hrow.kept (row := some w.heap.size) ⟨hg2.os, hg2.tape, hg2.output, hg2.size, fun i hi hne => hg2.block i hi fun e => hne (by rw [e])⟩ (by
     obtain ⟨o, ho, hw⟩ := hr0; exact ownsRow_ne_a hrow ho (fun cur e => by rw [e] at hw; cases hw))
    have hb2 : Below w.heap.size w w2 := hbr.trans ⟨hg2.os, hg2.tape, hg2.output, hg2.size, fun i hi => hg2.block i (Nat.lt_of_lt_of_le hi hbr.size) (by omega)⟩; obtain ⟨X, hX⟩ : ∃ X, (w2.alloc (.cells #[.string ⟨k.name.toArray⟩, .string ⟨k.domain.toArray⟩, .string ⟨k.path.toArray⟩] 24)).alloc (.cells #[.string ⟨k.name.toArray⟩, .string ⟨k.domain.toArray⟩, .string ⟨k.path.toArray⟩] 24) = X := ⟨_, rfl⟩; have hrow3 : X.ownsRow w1.heap.size 24 3 u3 ss.length (qbc (ss.map (·.1))) := by rw [<- hX]; exact (hrow2.alloc _).alloc _
    have hk3 : KeepsWalks w2 X := by rw [<- hX]; exact (KeepsWalks.alloc _ _).trans (KeepsWalks.alloc _ _)
    have hb3 : Below w.heap.size w X := by rw [<- hX]; exact (hb2.alloc hb2.size _).alloc (by have := hb2.size; simp; omega) _
    have hs3 : X.heap.size = wr.heap.size + 2 := by rw [<- hX]; simp; omega
    have hnc : ∀ i u, ([.string ⟨k.name.toArray⟩, .string ⟨k.domain.toArray⟩, .string ⟨k.path.toArray⟩] : List Value)[i]? = some u -> X.cell? ((⟨wr.heap.size + 1, 0, none⟩ : Addr).add i) = some u := fun i u hi => by
     rw [Addr.add_lit, <- hX, show wr.heap.size + 1 = (w2.alloc (.cells #[.string ⟨k.name.toArray⟩, .string ⟨k.domain.toArray⟩, .string ⟨k.path.toArray⟩] 24)).heap.size from by rw [<- hs2]; exact (Array.size_push _).symm]; match i with
     | 0 => cases hi; simp
     | 1 => cases hi; simp
     | 2 => cases hi; simp
     | _ + 3 => cases hi
    have hone : ∀ u ∈ ([.string ⟨k.name.toArray⟩, .string ⟨k.domain.toArray⟩, .string ⟨k.path.toArray⟩] : List Value), u.oneCell' = true := by simp [Value.oneCell']
    have hlen : ss.length + 1 <= G.alive.length := by omega
    have hmax : ss.length + 1 <= maxLen := by unfold maxLen; omega
    go_wp2_with (at_builtin; go_loud (refine wpList_append_own _ rfl _ _ 160 rfl w1.heap.size 24 i0 _ 3 48 Tryz.underlying160 hi hz0 hz1 hz2 rfl (by decide) _ _ _ rfl hrow3 ⟨wr.heap.size + 1, 0, none⟩ 1 1 [.string ⟨k.name.toArray⟩, .string ⟨k.domain.toArray⟩, .string ⟨k.path.toArray⟩] rfl rfl hnc hone hmax (by omega) (by omega) ?_; intro v3 w3 hown hg3 hnil))
    have hrg3 := (hrg2.walks hk3).walks (KeepsWalks.of_grownBy hg3 (ownsRow_not_walk_a hrow3)); have hs4 := hg3.size; go_roundw
    case rel => exact ⟨ss ++ [(k, (jI, jL))], left', hrg3, by simp; omega, by rw [List.map_append, List.map_cons, List.map_nil, qix, List.length_append]; exact hown, hb3.grown hg3 hb3.size (fun k e => Nat.le_trans hb1.size (hrow3.lt k e).1), by omega⟩
    case measure => rw [hrg3.left_eq, hrg.left_eq]; omega
end Go.Proofs
namespace Go.Proofs
open Go Go.Am Go.RowKit Go.Sy Go.Gm Go.Maps Go.Sort Go.Shelf
theorem qrc {w : World} {p : Nat -> Prop} {n : Nat} {l : List CDot} {v : Value} (hp : ∀ b, p b -> n <= b) (h : DotsU w p l v) : Up w n (dots l) v := by
 unfold dots; rcases h with ⟨rfl, a, c, rfl⟩ | ⟨b, off, cap, arr, ty, fz, rfl, hpb, hb, hc, hl, hi⟩
 · exact .lst0 rfl a c
 · refine .lst b off cap arr ty fz 3 (fun i j => (arr[off + i * 3 + j]?).getD (.bool false)) (hp b hpb) hb (by decide) hl (fun _ _ _ => rfl) hc (fun i x j v hx hv => ?_) (fun i x j v hx hv => ?_) (fun i x j v hx hv => ?_)
   all_goals
    have hil : i < l.length := (List.getElem?_eq_some_iff.1 hx).1; have hxe : l[i] = x := (List.getElem?_eq_some_iff.1 hx).2; obtain ⟨e0, e1, e2⟩ := hi i hil; rw [hxe] at e0 e1 e2; have hj : j < 3 := (List.getElem?_eq_some_iff.1 hv).1; match j, hj with
    | 0, _ => cases hv; first | rfl | exact (by rw [Nat.add_zero, e0]; rfl) | (simp only [Nat.add_zero, e0, Option.getD_some]; exact .int _ _)
    | 1, _ => cases hv; first | rfl | exact (by rw [e1]; rfl) | (simp only [e1, Option.getD_some]; exact .int _ _)
    | 2, _ => cases hv; first | rfl | exact (by rw [e2]; rfl) | (simp only [e2, Option.getD_some]; exact .int _ _)
theorem quS {w : World} {p : Nat -> Prop} {n : Nat} {L : List (CEvent × Value)} {v : Value} (hp : ∀ b, p b -> n <= b) (hd : ∀ x ∈ L, DotsU w p x.1.over x.2) (h : w.ownsRow n 42 19 v L.length (rowC L)) : Up w n (evs' (L.map (·.1))) v := by
 unfold evs'; obtain ⟨hlen, hr⟩ := h; rcases hr with ⟨rfl, h0⟩ | ⟨g, cap, cur, rfl, hpp, hb, hc, hm, hsz, htk⟩
 · exact .lstn (by simpa using h0)
 · rw [show L.length = (L.map (·.1)).length by simp]; have cell : ∀ i (hi : i < L.length) j, j < 19 -> cur[i * 19 + j]? = (qah L[i].1 L[i].2)[j]? := fun i hi j hj => by
     rw [<- qmf L i hi j hj, <- htk, List.getElem?_take, if_pos (by omega), Array.getElem?_toList]
   refine .lst g 0 cap cur 42 (0, 0) 19 (fun i j => (cur[i * 19 + j]?).getD (.bool false)) hpp hb (by decide) (by simp; omega) (fun _ _ _ => rfl) (by simpa using hc) (fun i x j v hx hv => ?_) (fun i x j v hx hv => ?_) (fun i x j v hx hv => ?_)
   · have hj : j < 19 := (List.getElem?_eq_some_iff.1 hv).1; match j, hj with
     | 0, _ | 1, _ | 2, _ | 3, _ | 4, _ | 5, _ | 6, _ | 7, _ | 8, _ | 9, _ | 10, _ | 11, _ | 12, _ | 13, _ | 14, _ | 15, _ | 16, _ | 17, _ | 18, _ => cases hv; rfl
   all_goals
     have hil : i < L.length := by simpa using (List.getElem?_eq_some_iff.1 hx).1
     have hxe : L[i].1 = x := by simpa using (List.getElem?_eq_some_iff.1 hx).2
     have hdi := hd _ (List.getElem_mem hil); rw [hxe] at hdi; have hj : j < 19 := (List.getElem?_eq_some_iff.1 hv).1; have hcl := cell i hil j hj; rw [hxe] at hcl
   · rw [Nat.zero_add, hcl, List.getElem?_eq_getElem (show j < (qah x L[i].2).length from hj)]; rfl
   · show Up w n v ((cur[i * 19 + j]?).getD _)
     rw [hcl]; match j, hj with
     | 0, _ | 1, _ | 2, _ | 3, _ | 4, _ | 5, _ | 6, _ | 15, _ | 16, _ | 17, _ => cases hv; exact .int _ _
     | 7, _ | 8, _ | 9, _ | 10, _ => cases hv; exact .str _
     | 11, _ | 12, _ | 13, _ | 14, _ => cases hv; exact .bool _
     | 18, _ => cases hv; exact qrc hp hdi
variable [Inhabited DrP]
def qi3 : Con := { Y := Nat × CMap, pre := fun y => Stands y.1 y.2, args := fun y => [.wp ⟨y.1, 0, none⟩], res := fun y => evs' (qaw y.2) }
theorem qm9 (hdr : ¬ (default : DrP).dr) : CO zz43 qi3 := zz86 zz1.ok (by
 rintro ⟨b, m⟩ hpre w args hold ⟨h1, h2⟩; match args, h1 with
 | [v], _ =>
 have e1 := quL (h2 0 _ _ rfl rfl); subst e1; refine (qwr hdr hpre hold).mono ?_; rintro e w' ⟨v', L, rfl, hL, hd, hr, hb⟩; refine ⟨_, rfl, .inr ?_, hb, fun h => (hdr h).elim⟩; show Up w' w.heap.size (evs' (qaw m)) v'
 rw [<- hL]; exact quS (fun _ h => h) hd hr)
noncomputable def qr8 (f : FuncId) : Option Con := bif Nat.beq f zz43 then some qi3 else bif Nat.beq f zz21 then some qlo else qr7 f
theorem qlC (hdr : ¬ (default : DrP).dr) : ∀ f C, qr8 f = some C -> CO f C := qab (qm9 hdr) (qab (qjL hdr) (qlB hdr))
end Go.Proofs
set_option maxHeartbeats 40000000
namespace Go.Proofs
open Go Go.Am Go.RowKit Go.Sy Go.Gm Go.Maps Go.Sort Go.Shelf
variable [Inhabited DrP]
abbrev Mp := Option (Nat × CMap)
def Mp.arg : Mp -> SV | none => .nilp | some y => .wp ⟨y.1, 0, none⟩
def Mp.m : Mp -> CMap | none => ⟨[], [], []⟩ | some y => y.2
def Mp.at : Mp -> Prop | none => True | some y => Stands y.1 y.2
noncomputable def Mp.con (c : FuncId -> Option Con) : Mp -> FuncId -> Option Con | none => con0 | some _ => c
noncomputable def Mp.ann (a : Nat × CMap -> FuncId -> Nat -> Option Ann) : Mp -> FuncId -> Nat -> Option Ann | none => fun _ _ => none | some y => a y
theorem qtx {c : FuncId -> Option Con} (h : ∀ f C, c f = some C -> CO f C) (y : Mp) : ∀ f C, y.con c f = some C -> CO f C := by
 cases y with
 | none => exact qbE
 | some y => exact h
def qnF : Con := { Y := Mp, pre := fun y => y.at, args := fun y => [y.arg], res := fun y => qmS (qby y.m) }
def qrQ (y : Nat × CMap) : Ann := let l := qaw y.2; { α := Nat, ok := fun i => i <= l.length, μ := fun i => l.length - i, keep := [], slots := fun i => [(3, .own 0), (7, evs' l), (8, i64 (Int.ofNat l.length)), (9, i64 i)], objs := fun i => [(0, qom ((l.take i).map CEvent.item))] }
theorem qqM (hdr : ¬ (default : DrP).dr) : CO zz83 qnF := qae (cfg := fun (y : Mp) => cfgE (Mp.con qr8 y) (Mp.ann (fun z => qaL zz83 3 (qrQ z)) y)) zz1 (fun _ => rfl) (fun (y : Mp) => qtx (qlC hdr) y) (n := 600) (by
 rintro (_ | ⟨b, m⟩) hm
 · repeat' (first | exact trivial | exact rfl | ((conv => whnf); first | refine brI (fun _ => ?_) fun _ => ?_ | refine And.intro ?_ ?_))
 have hm : Stands b m := hm; have hwl := qey hm.ok
 (conv => whnf)
 refine ⟨(b, m), ?_⟩
 repeat ((conv => whnf); first | refine ⟨rfl, ?_⟩ | refine ⟨trivial, ?_⟩)
 refine ⟨hm, ?_⟩
 (conv => whnf)
 refine ⟨⟨(0 : Nat), Nat.zero_le _, ?_⟩, ?_⟩
 · repeat' (first | exact trivial | exact rfl | ((conv => whnf); first | refine brI (fun _ => ?_) fun _ => ?_ | refine And.intro ?_ ?_))
   all_goals exact so_iff.2 ⟨_, rfl, ck_iff.2 ⟨rfl, fun _ => rfl⟩⟩
 intro (x : Nat) hx; have hx : x <= (qaw m).length := hx
 (conv => whnf)
 refine brI (fun hlt => ?_) fun hge => ?_
 · have hlt' : x < (qaw m).length := qad hlt; have hf := qgc CEvent.item hlt'; have hz : (((qaw m).take x).map CEvent.item).length + 1 <= 60000 := by simp; omega
   (conv => whnf)
   refine so_iff.2 ⟨_, qax hlt', ?_⟩
   (conv => whnf)
   refine ⟨(qaw m)[x].item, rfl, ?_⟩
   (conv => whnf)
   refine ck_iff.2 ⟨apI _ hz, ?_⟩
   (conv => whnf)
   refine ck_iff.2 ⟨qam x (by omega), ?_⟩
   (conv => whnf)
   refine ⟨(x + 1 : Nat), hlt', by show (qaw m).length - (x + 1) < (qaw m).length - x; omega, ?_⟩
   repeat' (first | exact trivial | exact rfl | ((conv => whnf); first | refine brI (fun _ => ?_) fun _ => ?_ | refine And.intro ?_ ?_))
   all_goals ((conv => whnf); rw [hf])
 · have hge' : (qaw m).length <= x := qbw hge
   (conv => whnf)
   refine ⟨by rw [List.take_of_length_le hge']; rfl, ?_⟩
   repeat' (first | exact trivial | exact rfl | ((conv => whnf); first | refine brI (fun _ => ?_) fun _ => ?_ | refine And.intro ?_ ?_)))
noncomputable def qpU (f : FuncId) : Option Con := bif Nat.beq f zz83 then some qnF else qr8 f
theorem qig (hdr : ¬ (default : DrP).dr) : ∀ f C, qpU f = some C -> CO f C := qab (qqM hdr) (qlC hdr)
def qrp : Con := { Y := Mp × CKey, pre := fun y => y.1.at, args := fun y => [y.1.arg, .agg y.2.enc], res := fun y => dots (qgE y.1.m y.2) }
def qtD (y : Nat × CMap × CKey) : Ann := let l := keyM y.2.1 y.2.2; { α := Nat, ok := fun i => i <= l.length, μ := fun i => l.length - i, keep := [3], slots := fun i => [(5, .own 1), (10, evs' l), (11, i64 (Int.ofNat l.length)), (12, i64 i)], objs := fun i => [(1, .arr CDot ((l.take i).map (·.dot)) CDot.enc Ty.Dot)] }
theorem qsL (hdr : ¬ (default : DrP).dr) : CO zz96 qrp := qae (cfg := fun (y : Mp × CKey) => cfgE (Mp.con qpU y.1) (Mp.ann (fun z => qaL zz96 3 (qtD (z.1, z.2, y.2))) y.1)) zz1 (fun _ => rfl) (fun (y : Mp × CKey) => qtx (qig hdr) y.1) (n := 600) (by
 rintro ⟨_ | ⟨b, m⟩, k⟩ hm
 · repeat' (first | exact trivial | exact rfl | ((conv => whnf); first | refine brI (fun _ => ?_) fun _ => ?_ | refine And.intro ?_ ?_))
 have hm : Stands b m := hm; have hkl := qgM hm.ok k
 (conv => whnf)
 refine ⟨(b, m, k), ?_⟩
 repeat ((conv => whnf); first | refine ⟨rfl, ?_⟩ | refine ⟨trivial, ?_⟩)
 refine ⟨hm, ?_⟩
 (conv => whnf)
 refine ⟨⟨(0 : Nat), Nat.zero_le _, ?_⟩, ?_⟩
 · repeat' (first | exact trivial | exact rfl | ((conv => whnf); first | refine brI (fun _ => ?_) fun _ => ?_ | refine And.intro ?_ ?_))
   all_goals exact so_iff.2 ⟨_, rfl, ck_iff.2 ⟨rfl, fun _ => rfl⟩⟩
 intro (x : Nat) hx; have hx : x <= (keyM m k).length := hx
 (conv => whnf)
 refine brI (fun hlt => ?_) fun hge => ?_
 · have hlt' : x < (keyM m k).length := qad hlt; have hf := qgc (fun e : CEvent => e.dot) hlt'
   (conv => whnf)
   refine so_iff.2 ⟨_, qax hlt', ?_⟩
   (conv => whnf)
   refine ⟨(keyM m k)[x].dot, rfl, ?_⟩
   (conv => whnf)
   refine ck_iff.2 ⟨apD _ (by simp; omega), ?_⟩
   (conv => whnf)
   refine ck_iff.2 ⟨qam x (by omega), ?_⟩
   (conv => whnf)
   refine ⟨(x + 1 : Nat), hlt', by show (keyM m k).length - (x + 1) < (keyM m k).length - x; omega, ?_⟩
   repeat' (first | exact trivial | exact rfl | ((conv => whnf); first | refine brI (fun _ => ?_) fun _ => ?_ | refine And.intro ?_ ?_))
   all_goals ((conv => whnf); rw [hf])
 · have hge' : (keyM m k).length <= x := qbw hge
   (conv => whnf)
   refine ⟨by rw [List.take_of_length_le hge']; rfl, ?_⟩
   repeat' (first | exact trivial | exact rfl | ((conv => whnf); first | refine brI (fun _ => ?_) fun _ => ?_ | refine And.intro ?_ ?_)))
def qju (m : CMap) (k : CKey) (now : Int) : CItem × Bool := if (qag m k).2 = false \/ qca (qag m k).1.cookie now = true then (qcl, false) else ((qag m k).1.item, true)
def qtP : Con := { Y := Mp × CKey × Int, pre := fun y => y.1.at, args := fun y => [y.1.arg, .agg y.2.1.enc, i64 y.2.2], res := fun y => .tup [.agg (qju y.1.m y.2.1 y.2.2).1.enc, .bool (qju y.1.m y.2.1 y.2.2).2] }
theorem qut (hdr : ¬ (default : DrP).dr) : CO qvy qtP := qae (cfg := fun (y : Mp × CKey × Int) => cfgE (Mp.con qpU y.1) (qaQ y)) zz1 (fun _ => rfl) (fun (y : Mp × CKey × Int) => qtx (qig hdr) y.1) (n := 600) (by
 rintro ⟨_ | ⟨b, m⟩, k, now⟩ hm
 · repeat' (first | exact trivial | exact rfl | ((conv => whnf); first | refine brI (fun _ => ?_) fun _ => ?_ | refine And.intro ?_ ?_))
 have hm : Stands b m := hm
 (conv => whnf)
 refine ⟨(b, m, k), ?_⟩
 repeat ((conv => whnf); first | refine ⟨rfl, ?_⟩ | refine ⟨trivial, ?_⟩)
 refine ⟨hm, ?_⟩
 (conv => whnf)
 refine brI (fun h => ?_) fun h => ?_
 · have h : (qag m k).2 = false := by
     have h : (!(qag m k).2) = true := h; simpa using h
   have hg : qju (Mp.m ((some (b, m), k, now) : Mp × CKey × Int).1) ((some (b, m), k, now) : Mp × CKey × Int).2.1 ((some (b, m), k, now) : Mp × CKey × Int).2.2 = (qcl, false) := if_pos (.inl h)
   repeat' (first | exact trivial | (with_reducible exact rfl) | ((conv => whnf); first | refine brI (fun _ => ?_) fun _ => ?_ | refine And.intro ?_ ?_))
   all_goals (rw [hg]; try rfl)
 · have h : (qag m k).2 = true := by
     have h : (!(qag m k).2) = false := h; simpa using h
   (conv => whnf)
   refine ⟨((qag m k).1.cookie, now), ?_⟩
   repeat ((conv => whnf); first | refine ⟨rfl, ?_⟩ | refine ⟨trivial, ?_⟩)
   (conv => whnf)
   refine brI (fun ho => ?_) fun ho => ?_
   · have ho : qca (qag m k).1.cookie now = true := ho; have hg : qju (Mp.m ((some (b, m), k, now) : Mp × CKey × Int).1) ((some (b, m), k, now) : Mp × CKey × Int).2.1 ((some (b, m), k, now) : Mp × CKey × Int).2.2 = (qcl, false) := if_pos (.inr ho)
     repeat' (first | exact trivial | (with_reducible exact rfl) | ((conv => whnf); first | refine brI (fun _ => ?_) fun _ => ?_ | refine And.intro ?_ ?_))
     all_goals (rw [hg]; try rfl)
   · have ho : qca (qag m k).1.cookie now = false := ho; have hg : qju (Mp.m ((some (b, m), k, now) : Mp × CKey × Int).1) ((some (b, m), k, now) : Mp × CKey × Int).2.1 ((some (b, m), k, now) : Mp × CKey × Int).2.2 = ((qag m k).1.item, true) := if_neg (by show ¬ ((qag m k).2 = false \/ qca (qag m k).1.cookie now = true); rw [h, ho]; simp)
     repeat' (first | exact trivial | (with_reducible exact rfl) | ((conv => whnf); first | refine brI (fun _ => ?_) fun _ => ?_ | refine And.intro ?_ ?_))
     all_goals (rw [hg]; try rfl))
noncomputable def qr9 (f : FuncId) : Option Con := bif Nat.beq f qvy then some qtP else bif Nat.beq f zz96 then some qrp else qpU f
theorem qlD (hdr : ¬ (default : DrP).dr) : ∀ f C, qr9 f = some C -> CO f C := qab (qut hdr) (qab (qsL hdr) (qig hdr))
end Go.Proofs
set_option maxHeartbeats 4000000
namespace Go.Proofs
open Go Go.Am Go.RowKit Go.Sy Go.Gm
theorem OMW.butVec {w w' : World} {n b bk ba bd bs bv : Nat} {G : GMap} (h : OMW w n b bk ba bd bs bv G) (hb : But (· = bv) w w') {V : List ((Int × Int) × Int)} (hm : MapIs w' bv encA encJ V) : OMW w' n b bk ba bd bs bv { G with vec := V } := by
 obtain ⟨n1, n2, n3, n4, n5, n6⟩ := h.ne; have hc : qa6 w w' := hb.cells fun k hk => by subst hk; exact MapIs.isMap h.mv
 have cc : ∀ {b o : Nat} {v : Value}, w.cell? ⟨b, o, none⟩ = some v -> w'.cell? ⟨b, o, none⟩ = some v := fun hv => qaf hv (hb.block _ (qaI hv) fun e => qda hv (by rw [e]; exact MapIs.isMap h.mv))
 exact ⟨cc h.c0, cc h.c1, cc h.c2, cc h.c3, cc h.cv, h.mkp.same (hb.block _ (MapIs.lt h.mkp) n3), h.ma.same (hb.block _ (MapIs.lt h.ma) n5), h.md.same (hb.block _ (MapIs.lt h.md) n6), hm, fun x hx => (h.mi x hx).same (hb.block _ (MapIs.lt (h.mi x hx)) (h.neI hx).2.2.2), h.nd, h.low, fun x hx => (h.ev x hx).cells hc⟩
theorem qrj {w : World} {bs bv : Nat} {L : List ((Int × Int) × Int)} (hs : w.cell? ⟨bs, 0, none⟩ = some (.map (some bv))) (hm : MapIs w bv encA encJ L) (a i n : Int) (hd : qbt ⟨a, i, n⟩ = true) :
    Calls Tryz.prog 66 #[.pointer (some ⟨bs, 0, none⟩), .agg #[.int .i64 a, .int .i64 i, .int .i64 n]] w fun e w' => e = .returned (.bool (decide (n <= qdm L a i))) /\ Below w.heap.size w w' := by
  have hc := fun w => qvu a i n w
  rw [hd] at hc; have hbv : bv < w.heap.size := MapIs.lt hm; have hbs : bs < w.heap.size := qaI hs; obtain ⟨W, hW⟩ : ∃ W, w.alloc (.cells #[.int .i64 a, .int .i64 i, .int .i64 n] 35) = W := ⟨_, rfl⟩; have hq : Below w.heap.size w W.drew := by rw [<- hW]; exact ((Below.refl w.heap.size w).alloc (Nat.le_refl _) _).drew
  have hsz : W.drew.heap.size = w.heap.size + 1 := by rw [<- hW]; simp
  have hn0 : W.drew.cell? ⟨w.heap.size, 0, none⟩ = some (.int .i64 a) := by rw [<- hW]; simp
  have hn1 : W.drew.cell? ⟨w.heap.size, 1, none⟩ = some (.int .i64 i) := by rw [<- hW]; simp
  have hn2 : W.drew.cell? ⟨w.heap.size, 2, none⟩ = some (.int .i64 n) := by rw [<- hW]; simp
  have hge : ∀ {x : World} (_ : x.cell? ⟨bs, 0, none⟩ = some (.map (some bv))) (_ : MapIs x bv encA encJ L), Calls Tryz.prog 67 #[.pointer (some ⟨bs, 0, none⟩), .agg #[.int .i64 a, .int .i64 i]] x fun e w' => e = .returned (.int .i64 (qdm L a i)) /\ Below x.heap.size x w' := fun h1 h2 => zz57 h1 h2 a i
  go_enter Tryz.func66, Tryz.ntmps66
  go_wp2_with fail
  go_region_with (first
   | (go_at_call 107; refine (hc _).mono ?_; rintro e w1 ⟨rfl, hb⟩; have hq1 := hq.trans (hb.mono (by rw [hsz]; omega)); have hs1 : w1.cell? ⟨bs, 0, none⟩ = some (.map (some bv)) := (hq1.cell hbs).trans hs; have hm1 : MapIs w1 bv encA encJ L := hm.same (hq1.block bv hbv); have hz1 := hb.size; have hb0 := (hb.cell (p := ⟨w.heap.size, 0, none⟩) (by rw [hsz]; show w.heap.size < _; omega)).trans hn0; have hb1 := (hb.cell (p := ⟨w.heap.size, 1, none⟩) (by rw [hsz]; show w.heap.size < _; omega)).trans hn1; have hb2 := (hb.cell (p := ⟨w.heap.size, 2, none⟩) (by rw [hsz]; show w.heap.size < _; omega)).trans hn2)
   | (go_at_call 67; refine (hge (by assumption) (by assumption)).mono ?_; rintro e w2 ⟨rfl, hc2⟩; have hq2 := hq1.trans (hc2.mono (by rw [hsz] at hz1; omega)); have hc0 := (hc2.cell (p := ⟨w.heap.size, 2, none⟩) (by rw [hsz] at hz1; show w.heap.size < _; omega)).trans hb2))
  all_goals (go_wp2)
  all_goals (go_ret)
  all_goals (exact ⟨rfl, hq2⟩)
end Go.Proofs
namespace Go.Proofs
open Go Go.Am Go.RowKit Go.Sy Go.Gm
theorem boxF {W : World} {bx m : Nat} {e : CEvent} {v : Value} {cs : Array Value} (r : W.rangeAt bx 0 (qah e v)) (hcs : Hid ((qah e v).toArray = cs)) (hm : Hid (m = 19)) :
  W.cell? ⟨bx, 0, none⟩ = some (.int .i64 e.dot.dev) /\ W.cell? ⟨bx, 1, none⟩ = some (.int .i64 e.dot.inc) /\ W.cell? ⟨bx, 2, none⟩ = some (.int .i64 e.dot.seq) /\ W.cell? ⟨bx, 6, none⟩ = some (.int .i64 e.kind) /\ W.cell? ⟨bx, 18, none⟩ = some v /\
   (loadCellsFrom ⟨bx, 0, none⟩ 0 m #[]).run Tryz.prog W = .ok cs W := by
 have h1 := zz97 r; rw [show (qah e v).toArray = cs from hcs, <- (show m = 19 from hm)] at h1; exact ⟨r 0 _ rfl, r 1 _ rfl, r 2 _ rfl, r 6 _ rfl, r 18 _ rfl, h1⟩
theorem qwf {w : World} {n b bk ba bd bs bv : Nat} {G : GMap} {m : CMap} {e : CEvent} {u : Value} (h : OMW w n b bk ba bd bs bv G) (hg : GRel G m) (hu : EvV w u e) (hse : qcK e) (hl : G.kept.length <= 100000) (hseq : ∀ a i, 0 <= getM m.ctx a i /\ getM m.ctx a i <= 4294967296)
   (hno : (qay m e).2.1 = false) :
   Calls Tryz.prog 15 #[.pointer (some ⟨b, 0, none⟩), u] w fun e' w' => e' = .returned (.tuple #[.bool false, .int .i64 (qay m e).2.2]) /\ (qay m e).1 = m /\ Below w.heap.size w w' := by
 obtain ⟨v, hu, hd⟩ := hu; obtain ⟨cs, hcs⟩ : ∃ cs : Array Value, Hid ((qah e v).toArray = cs) := ⟨_, rfl⟩; have hu' : u = .agg cs := by rw [hu, <- (show (qah e v).toArray = cs from hcs)]; rfl
 have hev0 : EvV w (.agg cs) e := ⟨v, by rw [<- hu', hu], hd⟩; clear hu; subst hu'; obtain ⟨SZ, mm, hSZ, hsz, hm⟩ := qeV; obtain ⟨W, hW⟩ : ∃ W, w.alloc (.cells cs 42) = W := ⟨_, rfl⟩; have hb : Below w.heap.size w W := by rw [<- hW]; exact (Below.refl w.heap.size w).alloc (Nat.le_refl _) _
 have hs : W.heap.size = w.heap.size + 1 := by rw [<- hW]; simp
 have hr : W.rangeAt w.heap.size 0 (qah e v) := by rw [<- hW, <- (show (qah e v).toArray = cs from hcs)]; exact qcA w e v
 have h0 := h.below hb; have hright := qvp (hev0.cells (zz2 hb)) hse; obtain ⟨k0, k1, k2, k6, k18, kl⟩ := boxF hr hcs hm; have hA : (∃ z, qay m e = (m, false, z)) := by
   unfold qay at hno ⊢; split
   · exact ⟨_, rfl⟩
   · rw [if_neg ‹_›] at hno; split
     · exact ⟨_, rfl⟩
     · rw [if_neg ‹_›] at hno; split
       · exact ⟨_, rfl⟩
       · rw [if_neg ‹_›] at hno; split
         · exact ⟨_, rfl⟩
         · rw [if_neg ‹_›] at hno; cases hno
 obtain ⟨z, hA⟩ := hA; by_cases q1 : qa7 e = false
 · have hz : z = 1 := by have : qay m e = (m, false, 1) := by { unfold qay; rw [if_pos q1] }; rw [this] at hA; cases hA; rfl
   rw [q1] at hright; rw [hA, hz]; go_enter Tryz.func15, Tryz.ntmps15
   go_wp2_with (go_at_call 65; refine hright.mono ?_; rintro e' w1 ⟨rfl, hb1⟩; have hbf := hb.trans (hb1.mono (by omega)))
   refine bodyPost_ret (results_tmp2 rfl _ _ _) rfl ?_; exact ⟨rfl, trivial, hbf⟩
 have q1' : qa7 e = true := by simpa using q1
 rw [q1'] at hright; letI : Inhabited DrP := ⟨⟨True, #[]⟩⟩
 have hdot : qbt e.dot = true := qfa q1'; have hhas0 : decide (e.dot.seq <= qdm G.vec e.dot.dev e.dot.inc) = hasM m.ctx e.dot := by
   unfold hasM; rw [hdot, Bool.true_and, qaX, hg.vec]
 by_cases q2 : hasM m.ctx e.dot = true
 · have hz : z = 0 := by have : qay m e = (m, false, 0) := by { unfold qay; rw [if_neg q1, if_pos q2] }; rw [this] at hA; cases hA; rfl
   have hhas := hhas0.trans q2; rw [hA, hz]; clear q1 q1' hhas0 q2 hA hno hev0 h hse; go_enter Tryz.func15, Tryz.ntmps15
   go_wp2_with (go_at_call 65; refine hright.mono ?_; rintro e' w1 ⟨rfl, hb1⟩; have hbf1 := hb.trans (hb1.mono (by omega)); have h1 := h0.below hb1; have r1 := qal (zz2 hb1) hr; obtain ⟨a0, a1, a2, a6, a18, al⟩ := boxF r1 hcs hm; have a3 := h1.c3; have h1d := h1.below (Below.refl w1.heap.size w1).drew; have hv1 := qrj h1d.cv h1d.mv e.dot.dev e.dot.inc e.dot.seq hdot; rw [hhas] at hv1; clear k0 k1 k2 k6 k18 kl h1d)
   go_region_held3 (fun w' => w'.cell? ⟨b, 3, none⟩ = some (.pointer (some ⟨bs, 0, none⟩)) /\ w'.cell? ⟨w.heap.size, 0, none⟩ = some (.int .i64 e.dot.dev) /\ w'.cell? ⟨w.heap.size, 1, none⟩ = some (.int .i64 e.dot.inc) /\ w'.cell? ⟨w.heap.size, 2, none⟩ = some (.int .i64 e.dot.seq)) (simp [*]) (first | (go_at_call 66; refine hv1.mono ?_; rintro e' w2 ⟨rfl, hb2⟩; have hbf2 := hbf1.drew.trans (hb2.mono (by have := hbf1.size; show _ <= w1.heap.size; omega)); have h2 := (h1.below (Below.refl w1.heap.size w1).drew).below hb2; have r2 := qal (zz2 hb2) (qal (zz2 (Below.refl w1.heap.size w1).drew) r1); obtain ⟨b0, b1, b2, b6, b18, bl⟩ := boxF r2 hcs hm; have b3 := h2.c3; have h2d := h2.below (Below.refl w2.heap.size w2).drew; have hv2 := zz57 h2d.cv h2d.mv e.dot.dev e.dot.inc; rw [show (getL G.vec (e.dot.dev, e.dot.inc)).getD 0 = getM m.ctx e.dot.dev e.dot.inc from hg.vec _ _] at hv2; clear a0 a1 a2 a6 a18 al a3 hv1 h2d))
   all_goals go_wp2
   all_goals refine bodyPost_ret (results_tmp2 rfl _ _ _) rfl ?_
   all_goals exact ⟨rfl, trivial, hbf2⟩
 have hhas := hhas0.trans (by simpa using q2); by_cases q3 : getM m.ctx e.dot.dev e.dot.inc + 1 ≠ e.dot.seq
 · have hz : z = 6 := by have : qay m e = (m, false, 6) := by { unfold qay; rw [if_neg q1, if_neg q2, if_pos q3] }; rw [this] at hA; cases hA; rfl
   have hwr : IntKind.i64.wrap (getM m.ctx e.dot.dev e.dot.inc + 1) = getM m.ctx e.dot.dev e.dot.inc + 1 := IntWalk.i64_in _ (by have := hseq e.dot.dev e.dot.inc; omega); have hne : (e.dot.seq != getM m.ctx e.dot.dev e.dot.inc + 1) = true := by simpa using fun h : e.dot.seq = _ => q3 h.symm
   rw [hA, hz]; clear q1 q1' hhas0 q2 hA hno hev0 h hse q3; go_enter Tryz.func15, Tryz.ntmps15
   go_wp2_with (go_at_call 65; refine hright.mono ?_; rintro e' w1 ⟨rfl, hb1⟩; have hbf1 := hb.trans (hb1.mono (by omega)); have h1 := h0.below hb1; have r1 := qal (zz2 hb1) hr; obtain ⟨a0, a1, a2, a6, a18, al⟩ := boxF r1 hcs hm; have a3 := h1.c3; have h1d := h1.below (Below.refl w1.heap.size w1).drew; have hv1 := qrj h1d.cv h1d.mv e.dot.dev e.dot.inc e.dot.seq hdot; rw [hhas] at hv1; clear k0 k1 k2 k6 k18 kl h1d)
   go_region_held3 (fun w' => w'.cell? ⟨b, 3, none⟩ = some (.pointer (some ⟨bs, 0, none⟩)) /\ w'.cell? ⟨w.heap.size, 0, none⟩ = some (.int .i64 e.dot.dev) /\ w'.cell? ⟨w.heap.size, 1, none⟩ = some (.int .i64 e.dot.inc) /\ w'.cell? ⟨w.heap.size, 2, none⟩ = some (.int .i64 e.dot.seq)) (simp [*]) (first | (go_at_call 66; refine hv1.mono ?_; rintro e' w2 ⟨rfl, hb2⟩; have hbf2 := hbf1.drew.trans (hb2.mono (by have := hbf1.size; show _ <= w1.heap.size; omega)); have h2 := (h1.below (Below.refl w1.heap.size w1).drew).below hb2; have r2 := qal (zz2 hb2) (qal (zz2 (Below.refl w1.heap.size w1).drew) r1); obtain ⟨b0, b1, b2, b6, b18, bl⟩ := boxF r2 hcs hm; have b3 := h2.c3; have h2d := h2.below (Below.refl w2.heap.size w2).drew; have hv2 := zz57 h2d.cv h2d.mv e.dot.dev e.dot.inc; rw [show (getL G.vec (e.dot.dev, e.dot.inc)).getD 0 = getM m.ctx e.dot.dev e.dot.inc from hg.vec _ _] at hv2; clear a0 a1 a2 a6 a18 al a3 hv1 h2d))
   all_goals go_wp2_with fail
   all_goals go_region_held3 (fun w' => w'.cell? ⟨b, 3, none⟩ = some (.pointer (some ⟨bs, 0, none⟩)) /\ w'.cell? ⟨w.heap.size, 0, none⟩ = some (.int .i64 e.dot.dev) /\ w'.cell? ⟨w.heap.size, 1, none⟩ = some (.int .i64 e.dot.inc) /\ w'.cell? ⟨w.heap.size, 2, none⟩ = some (.int .i64 e.dot.seq)) (simp [*]) (first | (go_at_call 67; refine hv2.mono ?_; rintro e' w3 ⟨rfl, hb3⟩; have hbf3 := hbf2.drew.trans (hb3.mono (by have := hbf2.size; show _ <= w2.heap.size; omega)); have h3 := (h2.below (Below.refl w2.heap.size w2).drew).below hb3; have hv3 := Tryz.room h3 hl;  have r3 := qal (zz2 hb3) (qal (zz2 (Below.refl w2.heap.size w2).drew) r2); obtain ⟨c0, c1, c2, c6, c18, cl⟩ := boxF r3 hcs hm; have c3 := h3.c3; clear b0 b1 b2 b6 b18 bl b3 hv2))
   all_goals go_wp2
   all_goals refine bodyPost_ret (results_tmp2 rfl _ _ _) rfl ?_
   all_goals exact ⟨rfl, trivial, hbf3⟩
 have q3' : getM m.ctx e.dot.dev e.dot.inc + 1 = e.dot.seq := by simpa using q3
 have q4 : 2048 <= m.kept.length := by
   apply Decidable.byContradiction; intro q4; unfold qay at hno; rw [if_neg q1, if_neg q2, if_neg q3, if_neg q4] at hno
   cases hno
 have hz : z = 9 := by have : qay m e = (m, false, 9) := by { unfold qay; rw [if_neg q1, if_neg q2, if_neg q3, if_pos q4] }; rw [this] at hA; cases hA; rfl
 have hwr : IntKind.i64.wrap (getM m.ctx e.dot.dev e.dot.inc + 1) = getM m.ctx e.dot.dev e.dot.inc + 1 := IntWalk.i64_in _ (by have := hseq e.dot.dev e.dot.inc; omega); have hne : (e.dot.seq != getM m.ctx e.dot.dev e.dot.inc + 1) = false := by rw [q3']; simp
 have hroom : decide (1 <= 2048 - (G.kept.length : Int)) = false := decide_eq_false (by rw [hg.len]; omega); rw [hA, hz]; clear q1 q1' hhas0 q2 hA hno hev0 h hse q3 q3' q4; go_enter Tryz.func15, Tryz.ntmps15
 go_wp2_with (go_at_call 65; refine hright.mono ?_; rintro e' w1 ⟨rfl, hb1⟩; have hbf1 := hb.trans (hb1.mono (by omega)); have h1 := h0.below hb1; have r1 := qal (zz2 hb1) hr; obtain ⟨a0, a1, a2, a6, a18, al⟩ := boxF r1 hcs hm; have a3 := h1.c3; have h1d := h1.below (Below.refl w1.heap.size w1).drew; have hv1 := qrj h1d.cv h1d.mv e.dot.dev e.dot.inc e.dot.seq hdot; rw [hhas] at hv1; clear k0 k1 k2 k6 k18 kl h1d)
 go_region_held3 (fun w' => w'.cell? ⟨b, 3, none⟩ = some (.pointer (some ⟨bs, 0, none⟩)) /\ w'.cell? ⟨w.heap.size, 0, none⟩ = some (.int .i64 e.dot.dev) /\ w'.cell? ⟨w.heap.size, 1, none⟩ = some (.int .i64 e.dot.inc) /\ w'.cell? ⟨w.heap.size, 2, none⟩ = some (.int .i64 e.dot.seq)) (simp [*]) (first | (go_at_call 66; refine hv1.mono ?_; rintro e' w2 ⟨rfl, hb2⟩; have hbf2 := hbf1.drew.trans (hb2.mono (by have := hbf1.size; show _ <= w1.heap.size; omega)); have h2 := (h1.below (Below.refl w1.heap.size w1).drew).below hb2; have r2 := qal (zz2 hb2) (qal (zz2 (Below.refl w1.heap.size w1).drew) r1); obtain ⟨b0, b1, b2, b6, b18, bl⟩ := boxF r2 hcs hm; have b3 := h2.c3; have h2d := h2.below (Below.refl w2.heap.size w2).drew; have hv2 := zz57 h2d.cv h2d.mv e.dot.dev e.dot.inc; rw [show (getL G.vec (e.dot.dev, e.dot.inc)).getD 0 = getM m.ctx e.dot.dev e.dot.inc from hg.vec _ _] at hv2; clear a0 a1 a2 a6 a18 al a3 hv1 h2d))
 all_goals go_wp2_with fail
 all_goals go_region_held3 (fun w' => w'.cell? ⟨b, 3, none⟩ = some (.pointer (some ⟨bs, 0, none⟩)) /\ w'.cell? ⟨w.heap.size, 0, none⟩ = some (.int .i64 e.dot.dev) /\ w'.cell? ⟨w.heap.size, 1, none⟩ = some (.int .i64 e.dot.inc) /\ w'.cell? ⟨w.heap.size, 2, none⟩ = some (.int .i64 e.dot.seq)) (simp [*]) (first | (go_at_call 67; refine hv2.mono ?_; rintro e' w3 ⟨rfl, hb3⟩; have hbf3 := hbf2.drew.trans (hb3.mono (by have := hbf2.size; show _ <= w2.heap.size; omega)); have h3 := (h2.below (Below.refl w2.heap.size w2).drew).below hb3; have hv3 := Tryz.room h3 hl; rw [hroom] at hv3; have r3 := qal (zz2 hb3) (qal (zz2 (Below.refl w2.heap.size w2).drew) r2); obtain ⟨c0, c1, c2, c6, c18, cl⟩ := boxF r3 hcs hm; have c3 := h3.c3; clear b0 b1 b2 b6 b18 bl b3 hv2))
 all_goals go_wp2_with (go_at_call 68; refine hv3.mono ?_; rintro e' w4 ⟨rfl, rfl⟩)
 all_goals refine bodyPost_ret (results_tmp2 rfl _ _ _) rfl ?_
 all_goals exact ⟨rfl, trivial, hbf3⟩
end Go.Proofs
