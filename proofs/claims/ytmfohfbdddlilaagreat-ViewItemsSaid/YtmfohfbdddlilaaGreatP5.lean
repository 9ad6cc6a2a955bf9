/- An evaluator over symbolic values, proved sound over the model's machine, and its use at this seat; no condition. Part 5. -/
import Derived.WalkKit
import Derived.LoopTactic
import Derived.DataReads
import Derived.ChangeArms
import Derived.ProofKit
import Derived.OpenShut
import Derived.Test.YtmfohfbdddlilaaGreatP4
set_option linter.unusedSimpArgs false
set_option linter.unusedVariables false
set_option linter.unusedSectionVars false
set_option linter.deprecated false
set_option maxRecDepth 100000
set_option maxHeartbeats 4000000
namespace Go.Proofs
open Go Go.Am Go.RowKit Go.Sy Go.Gm Go.Maps Go.Sort Go.Shelf
inductive Flat : SV -> Prop
 | bool (b : Bool) : Flat (.bool b)
 | int (k : IntKind) (n : Int) : Flat (.int k n)
 | str (s : List UInt8) : Flat (.str s)
 | wp (a : Addr) : Flat (.wp a)
 | lst {X : Type} {L : List X} {enc : X -> List SV} (h : ∀ (i : Nat) x (j : Nat) v, L[i]? = some x -> (enc x)[j]? = some v -> Flat v) : Flat (.lst X L enc)
theorem qn3 (l : List CDot) : Flat (dots l) := .lst fun i x j v _ hv => by
 have hj : j < 3 := (List.getElem?_eq_some_iff.1 hv).1; match j, hj with
 | 0, _ | 1, _ | 2, _ => cases hv; exact .int _ _
theorem qlR (l : List CEvent) : Flat (evs' l) := .lst fun i x j v _ hv => by
 have hj : j < 19 := (List.getElem?_eq_some_iff.1 hv).1; match j, hj with
 | 0, _ | 1, _ | 2, _ | 3, _ | 4, _ | 5, _ | 6, _ | 15, _ | 16, _ | 17, _ => cases hv; exact .int _ _
 | 7, _ | 8, _ | 9, _ | 10, _ => cases hv; exact .str _
 | 11, _ | 12, _ | 13, _ | 14, _ => cases hv; exact .bool _
 | 18, _ => cases hv; exact qn3 _
section
variable [Inhabited DrP] {tab : Tab} {w : World} {p : Nat -> Prop} {g : Bool}
theorem qns {n : Nat} (a : Option Addr) (c : Nat) : absV n (.slice a 0 c) = .nils \/ absV n (.slice a 0 c) = .raw (.slice a 0 c) := by
 unfold absV; split <;> simp_all
theorem quE {s : SV} (hf : Flat s) : ∀ {v : Value}, Rd w p g s v -> SimP (rowH tab w).get s (absV w.heap.size v) := by
 induction hf with
 | bool b => intro v h; cases h; exact .bool b
 | int k n => intro v h; cases h; exact .int k n
 | str s => intro v h; cases h; exact .str s
 | wp a => intro v h; cases h; exact .wp a
 | @lst X L enc hfl ih =>
  intro v h
  cases h with
  | lstn h0 => exact .lst0 h0 (.inl rfl)
  | lst0 h h0 a c =>
   rcases qns (n := w.heap.size) a c with e | e
   · rw [e]; exact .lst0 h0 (.inl rfl)
   · rw [e]; exact .lst0 h0 (.inr (.inr ⟨_, _, rfl⟩))
  | lst b off cap arr e fz sz u hp hb hs hl hn hc h1 h2 =>
   exact qiC hb hs (fun x hx => by obtain ⟨i, hi, rfl⟩ := List.getElem_of_mem hx; exact hn i _ (List.getElem?_eq_getElem hi)) hl rfl hc (fun i x j v hx hv => ⟨u i j, h1 i x j v hx hv, ih i x j v hx hv (h2 i x j v hx hv)⟩)
theorem qqd {s : SV} (hf : Flat s) {v : Value} (h : Rd w p g s v) (n : Nat) : absA n v = absV n v := by
 cases hf <;> cases h <;> rfl
theorem qoY {s : SV} (hf : Flat s) {v : Value} (h : Rd w p g s v) : SimP (rowH tab w).get s (absA w.heap.size v) := by
 rw [qqd hf h]; exact quE hf h
theorem quB {s : SV} {v : Value} (h : SimP (rowH tab w).get s (absA w.heap.size v)) : Rd w (fun _ => True) true s v := by
 have := qe5 (qep tab w (E := ⟨fun i => i, fun _ => 0⟩) (fun _ _ => rfl)) (fun _ _ h => h) h; rwa [qgv (fun _ _ => rfl)] at this
end
def EvsV (w : World) (l : List CEvent) (v : Value) : Prop := (l = [] /\ ∃ a c, v = .slice a 0 c) \/ ∃ b off cap arr e fz, v = .slice (some ⟨b, off, none⟩) l.length cap /\ w.heap[b]? = some (.cells arr e fz) /\ l.length <= cap /\ off + l.length * 19 <= arr.size /\
 ∀ i (h : i < l.length), ∃ u, (∀ j, j < 19 -> arr[off + i * 19 + j]? = (qaf l[i] u)[j]?) /\ DotsV w l[i].over u
theorem EvsV.cells {w w' : World} (hc : qa8 w w') {l : List CEvent} {v : Value} (h : EvsV w l v) : EvsV w' l v := by
 rcases h with h | ⟨b, off, cap, arr, e, fz, h1, h2, h3, h5, h4⟩
 · exact .inl h
 · exact .inr ⟨b, off, cap, arr, e, fz, h1, hc _ _ _ _ h2, h3, h5, fun i hi => by obtain ⟨u, k1, k2⟩ := h4 i hi; exact ⟨u, k1, k2.cells hc⟩⟩
theorem EvsV.one {w : World} {l : List CEvent} {v : Value} (h : EvsV w l v) : ∃ a c, v = .slice a l.length c := by
 rcases h with ⟨rfl, a, c, rfl⟩ | ⟨b, off, cap, arr, e, fz, rfl, _⟩ <;> exact ⟨_, _, rfl⟩
theorem qt2 [Inhabited DrP] {w : World} {p : Nat -> Prop} {g : Bool} {l : List CEvent} {v : Value} (h : Rd w p g (evs' l) v) : EvsV w l v := by
 unfold evs' at h
 cases h with
 | lstn h0 => exact .inl ⟨List.length_eq_zero_iff.1 h0, _, _, rfl⟩
 | lst0 h h0 a c => exact .inl ⟨List.length_eq_zero_iff.1 h0, _, _, rfl⟩
 | lst b off cap arr e fz sz u hp hb hs hl hn hc h1 h2 =>
  by_cases h0 : l = []
  · subst h0; exact .inl ⟨rfl, _, _, rfl⟩
  · have hsz : sz = 19 := by
     obtain ⟨x, l', rfl⟩ := List.exists_cons_of_ne_nil h0; exact (hn 0 x rfl).symm
    subst hsz; refine .inr ⟨b, off, cap, arr, e, fz, rfl, hb, hc, hl, fun i hi => ?_⟩; have hx : l[i]? = some l[i] := List.getElem?_eq_getElem hi; have key : ∀ (j : Nat) s, (CEvent.enc l[i])[j]? = some s -> arr[off + i * 19 + j]? = some (u i j) /\ Rd w p g s (u i j) := fun j s hs => ⟨h1 i _ j s hx hs, h2 i _ j s hx hs⟩
    refine ⟨u i 18, fun j hj => ?_, qsc (key 18 _ rfl).2⟩; match j, hj with
    | 0, _ | 1, _ | 2, _ | 3, _ | 4, _ | 5, _ | 6, _ | 15, _ | 16, _ | 17, _ => rw [(key _ _ rfl).1, qbf (key _ _ rfl).2]; rfl
    | 7, _ | 8, _ | 9, _ | 10, _ => rw [(key _ _ rfl).1, qdI (key _ _ rfl).2]; rfl
    | 11, _ | 12, _ | 13, _ | 14, _ => rw [(key _ _ rfl).1, qdZ (key _ _ rfl).2]; rfl
    | 18, _ => rw [(key _ _ rfl).1]; rfl
    | _ + 19, h => exact absurd h (by omega)
theorem qrC [Inhabited DrP] {w : World} {l : List CEvent} {v : Value} (h : EvsV w l v) : Rd w (fun _ => True) true (evs' l) v := by
 unfold evs'; rcases h with ⟨rfl, a, c, rfl⟩ | ⟨b, off, cap, arr, e, fz, rfl, hb, hc, hl, hi⟩
 · exact .lst0 rfl rfl a c
 · refine .lst b off cap arr e fz 19 (fun i j => (arr[off + i * 19 + j]?).getD (.bool false)) trivial hb (by decide) hl (fun _ _ _ => rfl) hc (fun i x j v hx hv => ?_) (fun i x j v hx hv => ?_)
   all_goals
     have hil : i < l.length := (List.getElem?_eq_some_iff.1 hx).1; have hxe : l[i] = x := (List.getElem?_eq_some_iff.1 hx).2; obtain ⟨u, hcl, hd⟩ := hi i hil; rw [hxe] at hcl hd; have hj : j < 19 := (List.getElem?_eq_some_iff.1 hv).1; have hcl := hcl j hj
   · rw [hcl, List.getElem?_eq_getElem (show j < (qaf x u).length from hj)]; rfl
   · show Rd w _ true v ((arr[off + i * 19 + j]?).getD _)
     rw [hcl]; match j, hj with
     | 0, _ | 1, _ | 2, _ | 3, _ | 4, _ | 5, _ | 6, _ | 15, _ | 16, _ | 17, _ => cases hv; exact .int _ _
     | 7, _ | 8, _ | 9, _ | 10, _ => cases hv; exact .str _
     | 11, _ | 12, _ | 13, _ | 14, _ => cases hv; exact .bool _
     | 18, _ => cases hv; exact qs1 hd
theorem qwa {w : World} {b off : Nat} {arr : Array Value} {e : TypeId} {fz : Nat × Nat} {x : CEvent} {u : Value} {i : Nat} (hb : w.heap[b]? = some (.cells arr e fz)) (hc : ∀ j, j < 19 -> arr[off + i * 19 + j]? = (qaf x u)[j]?) :
  (loadCellsFrom ⟨b, off + i * 19, none⟩ 0 19 #[]).run Tryz.prog w = .ok (qaf x u).toArray w := by
 have hl : (loadCells ⟨b, off + i * 19, none⟩ (qaf x u).length).run Tryz.prog w = .ok (qaf x u).toArray w :=
  run_loadCells_list (P := Tryz.prog) w ⟨b, off + i * 19, none⟩ (qaf x u) (fun j v hv => by
   have hj : j < 19 := (List.getElem?_eq_some_iff.1 hv).1; rw [Addr.add_mid]; unfold World.cell?
   simp only [hb, Option.isSome_none, Bool.false_eq_true, if_false]; rw [hc j hj]; exact hv)
 exact hl
theorem OMW.heap {w w' : World} {n b bk ba bd bs bv : Nat} {G : GMap} (h : OMW w n b bk ba bd bs bv G) (hs : ∀ i, i < w.heap.size -> w'.heap[i]? = w.heap[i]?) : OMW w' n b bk ba bd bs bv G where
 c0 := qai h.c0 (hs _ (qa6 h.c0))
 c1 := qai h.c1 (hs _ (qa6 h.c1))
 c2 := qai h.c2 (hs _ (qa6 h.c2))
 c3 := qai h.c3 (hs _ (qa6 h.c3))
 cv := qai h.cv (hs _ (qa6 h.cv))
 mkp := h.mkp.same (hs _ h.mkp.lt)
 ma := h.ma.same (hs _ h.ma.lt)
 md := h.md.same (hs _ h.md.lt)
 mv := h.mv.same (hs _ h.mv.lt)
 mi := fun x hx => (h.mi x hx).same (hs _ (h.mi x hx).lt)
 nd := h.nd
 low := h.low
 ev := fun x hx => (h.ev x hx).cells fun c arr e fz hc => by rw [hs _ (Array.getElem?_eq_some_iff.1 hc).1]; exact hc
abbrev qiR (w : World) : Inhabited DrP := ⟨⟨False, w.heap⟩⟩
theorem qli (w : World) : @OldW (qiR w) w := by intro b _; rfl
theorem qkg (w : World) : ¬ (@default DrP (qiR w)).dr := fun h => h
theorem qo4 {w : World} {n b bk ba bd bs bv : Nat} {G : GMap} {m : CMap} (h : OMW w n b bk ba bd bs bv G) (g : GRel G m) (ok : okM m) (hov : ∀ e ∈ m.kept, e.over.length <= 100000) : @Stands (qiR w) b m :=
 letI : Inhabited DrP := qiR w
 ⟨ok, hov, fun w' hw => ⟨n, bk, ba, bd, bs, bv, G, h.heap fun i hi => hw i hi, g⟩⟩
theorem Tryz.apply {w : World} {n b bk ba bd bs bv : Nat} {G : GMap} {m : CMap} {e : CEvent} {u : Value} (h : OMW w n b bk ba bd bs bv G) (hg : GRel G m) (hn : n <= w.heap.size) (hu : EvV w u e) (hse : qcH e) (hover : e.over.length <= 100000) (ok : okM m) :
  Calls Tryz.prog 15 #[.pointer (some ⟨b, 0, none⟩), u] w fun e' w' => e' = .returned (.tuple #[.bool (qax m e).2.1, .int .i64 (qax m e).2.2]) /\ Below n w w' /\ qa8 w w' /\ ∃ G', OMW w' n b bk ba bd bs bv G' /\ GRel G' (qax m e).1 := by
 letI : Inhabited DrP := ⟨⟨True, #[]⟩⟩
 have hseq := qhC ok.seq; have hl : G.kept.length <= 100000 := by rw [hg.len]; have := ok.kept; omega
 cases hA : (qax m e).2.1 with
 | false =>
  refine (qv6 h hg hu hse hl hseq hA).mono ?_; rintro e' w' ⟨rfl, he, hb⟩; exact ⟨rfl, hb.mono hn, zz2 hb, G, h.below hb, by rw [he]; exact hg⟩
 | true =>
  have hq : qa9 e = true /\ hasM m.ctx e.dot = false /\ getM m.ctx e.dot.dev e.dot.inc + 1 = e.dot.seq /\ ¬ 2048 <= m.kept.length /\ (qax m e).2.2 = 0 := by
    unfold qax at hA ⊢; split at hA
    · cases hA
    split at hA
    · cases hA
    split at hA
    · cases hA
    split at hA
    · cases hA
    rename_i q1 q2 q3 q4; rw [if_neg q1, if_neg q2, if_neg q3, if_neg q4]; exact ⟨by simpa using q1, by simpa using q2, by simpa using q3, q4, rfl⟩
  obtain ⟨q1, q2, q3, q4, q5⟩ := hq; rw [q5]; refine (qvX h hg hn hu hse hover hseq q1 q2 q3 q4).mono ?_; rintro e' w' ⟨rfl, hb, G', h1, h2⟩; have hmaps := h.maps; refine ⟨rfl, ⟨hb.os, hb.tape, hb.output, hb.size, fun k hk => hb.block k (by omega) fun hm => ?_⟩, fun c arr ty fz hc => ?_, G', h1, h2⟩
  · have := h.low k (by unfold qav at hm; simp only [List.mem_cons] at hm ⊢; exact .inr (.inr hm)); omega
  · rw [hb.block c (Array.getElem?_eq_some_iff.1 hc).1 fun hm => ?_]
    · exact hc
    · obtain ⟨es, clk, he⟩ := hmaps c hm; rw [hc] at he; cases he
end Go.Proofs
namespace Go.Proofs
open Go Go.Am Go.RowKit Go.Sy Go.Gm Go.Maps Go.Sort Go.Shelf
variable [Inhabited DrP]
theorem qqn {x y : CEvent} (h : qd5 x y = true) : x.key ≠ y.key := by
 intro e; unfold qd5 at h; rw [e, qb4] at h
 cases h
theorem qnj {G : GMap} {m : CMap} (g : GRel G m) : (qaz m).Pairwise fun x y => x.key ≠ y.key := (qeb g).imp qqn
theorem qql {G : GMap} {m : CMap} (g : GRel G m) : (qaC m).Pairwise fun x y => x.key ≠ y.key := by
 unfold qaC; rw [List.pairwise_map]; exact qnj g
end Go.Proofs
set_option maxHeartbeats 40000000
namespace Go.Proofs
open Go Go.Am Go.RowKit Go.Sy Go.Gm Go.Maps Go.Sort Go.Shelf
def qo2 : Nat -> Code -> Code
 | 0, c => c
 | n + 1, .seq _ b => qo2 n b
 | _, c => c
def qrW : Con := { Y := Unit, pre := fun _ => True, args := fun _ => [], res := fun _ => .bool true }
section
variable [Inhabited DrP]
theorem qni (m : CMap) : (qaz m).length <= m.kept.length := by
 have h1 := qgf m (qah m) []; have h2 : (qah m).length <= m.kept.length := List.length_filter_le _ _; unfold qaz winF; simp only [List.length_nil, Nat.zero_add] at h1; omega
theorem qqk (m : CMap) : (qaC m).length <= m.kept.length := by unfold qaC; rw [List.length_map]; exact qni m
noncomputable def qtW (f : FuncId) : Option Con := bif Nat.beq f zz61 then some qrW else qr3 f
theorem qpV (hdr : ¬ (default : DrP).dr) (ha : CO zz61 qrW) : ∀ f C, qtW f = some C -> CO f C := qab ha (qlA hdr)
def aVI1 (l : List CItem) : Ann := { α := Nat, ok := fun i => i <= l.length, μ := fun i => l.length - i, keep := [1, 5, 7, 8], slots := fun i => [(9, i64 i)], objs := fun _ => [] }
def aVI2 (l : List CItem) : Ann := { α := Nat × Nat, ok := fun x => x.1 < l.length /\ x.2 <= x.1, μ := fun x => x.1 - x.2, keep := [1, 5, 7, 8], slots := fun x => [(9, i64 x.1), (10, i64 x.2)], objs := fun _ => [], link := some fun a b => b.1 = a.1 }
theorem qtm {b : Nat} {l : List CEvent} {now : Int} {G : GMap} (hl : qju l) (g : GRel G (qa4 l)) (hS : Stands b (qa4 l)) : wp (cfgE qtW (qgh zz26 14 (aVI2 (qaC (qa4 l))) (qaL zz26 11 (aVI1 (qaC (qa4 l)))))) 2000
   ⟨zz26, 79, 0, [.code (qo2 4 (Tryz.f4.body.getD .skip))], ⟨[(0, evs' l), (1, i64 now), (5, .wp ⟨b, 0, none⟩)], ⟨0, []⟩, []⟩⟩ isT := by
 (conv => whnf)
 refine ⟨l, ?_⟩
 repeat ((conv => whnf); first | refine ⟨rfl, ?_⟩ | refine ⟨trivial, ?_⟩)
 refine ⟨hl, ?_⟩
 (conv => whnf)
 refine ⟨some (b, qa4 l), ?_⟩
 repeat ((conv => whnf); first | refine ⟨rfl, ?_⟩ | refine ⟨trivial, ?_⟩)
 refine ⟨hS, ?_⟩; have hb := (qcj hl.2 l.length (Nat.le_refl _)); rw [List.take_length] at hb; have hok : okM (qa4 l) := hb.ok (by have := hl.1; omega); have hil : (qaC (qa4 l)).length <= 10000 := by have h1 := qqk (qa4 l); have h2 := hb.kept; have h3 := hl.1; omega
 have htl : (qg4 (qa4 l) now).length <= 10000 := Nat.le_trans (List.length_filter_le _ _) hil; have hne := qql g
 (conv => whnf)
 refine ⟨⟨(0 : Nat), Nat.zero_le _, ?_⟩, ?_⟩
 · repeat' (first | exact trivial | exact rfl | ((conv => whnf); first | refine brI (fun _ => ?_) fun _ => ?_ | refine And.intro ?_ ?_))
 intro (x : Nat) hx; have hx : x <= (qaC (qa4 l)).length := hx
 (conv => whnf)
 refine brI (fun hlt => ?_) fun hge => ?_
 · have hlt' : x < (qaC (qa4 l)).length := qad hlt
   (conv => whnf)
   refine ⟨((x, 0) : Nat × Nat), ⟨((x, 0) : Nat × Nat), ⟨⟨hlt', Nat.zero_le _⟩, rfl⟩, ?_⟩, ?_⟩
   · repeat' (first | exact trivial | exact rfl | ((conv => whnf); first | refine brI (fun _ => ?_) fun _ => ?_ | refine And.intro ?_ ?_))
   rintro ⟨x1, k⟩ ⟨⟨h1, h2⟩, hx1⟩; have hx1 : x1 = x := hx1; subst hx1; have h2 : k <= x1 := h2
   (conv => whnf)
   refine brI (fun hlt2 => ?_) fun hge2 => ?_
   · have hlt2' : k < x1 := by
       have h : ltI (Int.ofNat k) (Int.ofNat x1) = true := hlt2; rw [qam, decide_eq_true_eq] at h; exact Int.ofNat_lt.1 h
     have hkl : k < (qaC (qa4 l)).length := by omega
     (conv => whnf)
     refine so_iff.2 ⟨_, qaw hlt', ?_⟩
     (conv => whnf)
     refine so_iff.2 ⟨_, qaw hkl, ?_⟩
     (conv => whnf)
     refine brI (fun he => ?_) fun he => ?_
     · have h := List.pairwise_iff_getElem.1 hne k x1 hkl hlt' hlt2'; rw [qkC] at he; exact absurd (of_decide_eq_true he).symm h
     · (conv => whnf)
       refine ck_iff.2 ⟨qal k (by omega), ?_⟩
       (conv => whnf)
       refine ⟨((x1, k + 1) : Nat × Nat), ⟨⟨hlt', hlt2'⟩, rfl⟩, by show x1 - (k + 1) < x1 - k; omega, ?_⟩
       repeat' (first | exact trivial | exact rfl | ((conv => whnf); first | refine brI (fun _ => ?_) fun _ => ?_ | refine And.intro ?_ ?_))
   · (conv => whnf)
     refine ck_iff.2 ⟨qal x1 (by omega), ?_⟩
     (conv => whnf)
     refine ⟨(x1 + 1 : Nat), hlt', by show (qaC (qa4 l)).length - (x1 + 1) < (qaC (qa4 l)).length - x1; omega, ?_⟩
     repeat' (first | exact trivial | exact rfl | ((conv => whnf); first | refine brI (fun _ => ?_) fun _ => ?_ | refine And.intro ?_ ?_))
 · (conv => whnf)
   refine ⟨qa4 l, ?_⟩
   repeat ((conv => whnf); first | refine ⟨rfl, ?_⟩ | refine ⟨trivial, ?_⟩)
   refine ⟨hok, ?_⟩
   (conv => whnf)
   refine ⟨(qaC (qa4 l), qaC (qa4 l)), ?_⟩
   repeat ((conv => whnf); first | refine ⟨rfl, ?_⟩ | refine ⟨trivial, ?_⟩)
   refine ⟨⟨hil, hil⟩, ?_⟩
   (conv => whnf)
   refine br_iff.2 ⟨fun _ => ?_, fun h => absurd (show decide (qaC (qa4 l) = qaC (qa4 l)) = false from h) (by simp)⟩
   (conv => whnf)
   refine ⟨(some (b, qa4 l), now), ?_⟩
   repeat ((conv => whnf); first | refine ⟨rfl, ?_⟩ | refine ⟨trivial, ?_⟩)
   refine ⟨hS, ?_⟩
   (conv => whnf)
   refine ⟨(qa4 l, now), ?_⟩
   repeat ((conv => whnf); first | refine ⟨rfl, ?_⟩ | refine ⟨trivial, ?_⟩)
   refine ⟨hok, ?_⟩
   (conv => whnf)
   refine ⟨(qg4 (qa4 l) now, qg4 (qa4 l) now), ?_⟩
   repeat ((conv => whnf); first | refine ⟨rfl, ?_⟩ | refine ⟨trivial, ?_⟩)
   refine ⟨⟨htl, htl⟩, ?_⟩
   (conv => whnf)
   refine br_iff.2 ⟨fun _ => ?_, fun h => absurd (show decide (qg4 (qa4 l) now = qg4 (qa4 l) now) = false from h) (by simp)⟩
   (conv => whnf)
   refine ⟨(none : Mp), ?_⟩
   repeat ((conv => whnf); first | refine ⟨rfl, ?_⟩ | refine ⟨trivial, ?_⟩)
   (conv => whnf)
   refine ⟨((none, now) : Mp × Int), ?_⟩
   repeat ((conv => whnf); first | refine ⟨rfl, ?_⟩ | refine ⟨trivial, ?_⟩)
   refine ⟨(), ?_⟩
   repeat ((conv => whnf); first | refine ⟨rfl, ?_⟩ | refine ⟨trivial, ?_⟩)
   repeat' (first | exact trivial | exact rfl | ((conv => whnf); first | refine brI (fun _ => ?_) fun _ => ?_ | refine And.intro ?_ ?_))
end
end Go.Proofs
set_option maxHeartbeats 4000000
namespace Go.Proofs
open Go Go.Am Go.RowKit Go.Sy Go.Gm Go.Maps Go.Sort Go.Shelf
theorem qkJ {P : Program} {f : FuncId} {fn : Func} {l : List Item} {R : Ending -> World -> Prop} {a : Act} {w : World} {v : Value} (hr : (results fn a.tmps).run P w = .ok v w) (hd : a.defers = []) (hR : R (.returned v) w) : qkI P f fn l R .ret a w := ⟨hd, v, hr, hR⟩
theorem qvZ {l : List CEvent} {v : Value} {w : World} (h : EvsV w l v) : Calls Tryz.prog 12 #[v, .int .i64 30] w fun e w' => e = .returned (.bool (leI (Int.ofNat l.length) 30 && l.all qbH)) /\ Below w.heap.size w w' :=
 qpx (C := fun _ => qgo) (fun I => @qhK I) (hfn := rfl) (hb := rfl) (args := [v, .int .i64 30]) (fun I => ⟨(l, 30), (by show (30 : Int) <= 1000000; omega), PL.cons (qoY (qlR l) (qrC h)) (PL.cons (.int _ _) PL.nil), rfl⟩)
theorem qqp [Inhabited DrP] {l : List CEvent} (h : (leI (Int.ofNat l.length) 30 && l.all qbH) = true) : l.length <= 30 /\ qju l := by
 rw [Bool.and_eq_true, qaX, decide_eq_true_eq, List.all_eq_true] at h; have h1 : (l.length : Int) <= 30 := h.1; exact ⟨by omega, by omega, h.2⟩
theorem qmO [Inhabited DrP] {l : List CEvent} {i : Nat} (h : i < l.length) : qa4 (l.take (i + 1)) = (qax (qa4 (l.take i)) l[i]).1 := qb5 (fun m e => (qax m e).1) qdq h
theorem qsm [Inhabited DrP] {m : CMap} {e x : CEvent} (h : x ∈ (qax m e).1.kept) : x ∈ m.kept \/ x = e := by
 unfold qax at h; split at h
 · exact .inl h
 split at h
 · exact .inl h
 split at h
 · exact .inl h
 split at h
 · exact .inl h
 unfold putK at h; rcases List.mem_append.1 h with h | h
 · exact .inl (List.mem_of_mem_take h)
 · rcases List.mem_cons.1 h with h | h
   · exact .inr h
   · exact .inl (List.mem_of_mem_drop h)
theorem qqf [Inhabited DrP] (l : List CEvent) {x : CEvent} (h : x ∈ (qa4 l).kept) : x ∈ l := by
 have key : ∀ (l : List CEvent) (m : CMap), x ∈ (l.foldl (fun m e => (qax m e).1) m).kept -> x ∈ m.kept \/ x ∈ l := by
   intro l; induction l with
   | nil => intro m h; exact .inl h
   | cons e l ih =>
    intro m h; rcases ih _ h with h | h
    · rcases qsm h with h | rfl
      · exact .inl h
      · exact .inr List.mem_cons_self
    · exact .inr (List.mem_cons_of_mem _ h)
 rcases key l qdq h with h | h
 · cases h
 · exact h
theorem Mid.mono {P : Program} {f : FuncId} {l : List Item} {a : Act} {w : World} {R R' : Ending -> World -> Prop} (h : Mid P f l a w R) (hr : ∀ e w', R e w' -> R' e w') : Mid P f l a w R' := fun cs => by
 obtain ⟨e, w', fr, h1, h2⟩ := h cs; exact ⟨e, w', fr, hr _ _ h1, h2⟩
theorem qux [Inhabited DrP] (hdr : ¬ (default : DrP).dr) {f : FuncId} (ha : ∀ w, Calls Tryz.prog f #[] w fun e w' => e = .returned (.bool true) /\ Below w.heap.size w w') : CO f qrW := zz85 zz1.ok (by
 rintro y - w args hold ⟨h1, h2⟩; match args, h1 with
 | [], _ =>
 refine (ha w).mono ?_; rintro e w' ⟨rfl, hb⟩; exact ⟨_, rfl, .inr (.bool true), hb, fun h => (hdr h).elim⟩)
theorem qg2 {w : World} {n b bk ba bd bs bv : Nat} {G : GMap} {l : List CEvent} (h : OMW w n b bk ba bd bs bv G) (g : GRel G (qa4 l)) (hl : qju l) : @Stands (qiR w) b (qa4 l) := by
 letI : Inhabited DrP := qiR w
 have hb := qcj hl.2 l.length (Nat.le_refl _); rw [List.take_length] at hb; exact qo4 h g (hb.ok (by have := hl.1; omega)) fun e he => by
  have := (qdc (hl.2 e (qqf l he))).2; omega
theorem qvY {l : List CEvent} {v : Value} {now : Int} {w : World} (hv : EvsV w l v) (ha : ∀ w, Calls Tryz.prog 13 #[] w fun e w' => e = .returned (.bool true) /\ Below w.heap.size w w') :
  Calls Tryz.prog 4 #[v, .int .i64 now] w fun e w' => e = .returned (.bool true) /\ Below w.heap.size w w' := by
 have hlight := qvZ hv; obtain ⟨sa, sc, rfl⟩ := hv.one; refine qfG Tryz.func4 rfl ?_; simp only [Tryz.ntmps4, List.size_toArray, List.length_cons, List.length_nil, Nat.reduceAdd, Nat.reduceSub, Array.replicate_succ, Array.replicate_zero, List.push_toArray, List.append_toArray, List.nil_append, List.cons_append]; refine Mid.next Tryz.func4 ?_; go_wp2; show Mid _ _ _ _ _ _
 refine Mid.next Tryz.func4 ?_
 cases hL : (leI (Int.ofNat l.length) 30 && l.all qbH) with
 | false =>
  rw [hL] at hlight; go_wp2_with (first | (go_at_call 12; refine hlight.mono ?_; rintro e w1 ⟨rfl, hb1⟩; have ha1 := ha w1) | (go_at_call 13; refine ha1.mono ?_; rintro e w2 ⟨rfl, hb2⟩))
  refine qkJ (results_tmp rfl _ _ _) rfl ?_; exact ⟨rfl, hb1.trans (hb2.mono hb1.size)⟩
 | true =>
  rw [hL] at hlight; obtain ⟨hl30, hlt⟩ := @qqp ⟨⟨True, #[]⟩⟩ l hL; go_wp2_with (first | (go_at_call 12; refine hlight.mono ?_; rintro e w1 ⟨rfl, hb1⟩))
  show Mid _ _ _ _ _ _
  refine Mid.next Tryz.func4 ?_; have hnew := qvs w1; go_wp2_with (first | (go_at_call 14; refine hnew.mono ?_; rintro e w2 ⟨b, bk, ba, bd, bs, bv, rfl, hO, hb2⟩))
  show Mid _ _ _ _ _ _
  refine Mid.next Tryz.func4 ?_; have hv2 := (hv.cells (zz2 hb1)).cells (zz2 hb2); go_wp2; go_loopw [6] (fun i wr => ∃ (k : Nat) (G : GMap), k <= l.length /\ i = .int .i64 k /\ EvsV wr l (.slice sa l.length sc) /\ OMW wr w1.heap.size b bk ba bd bs bv G /\ GRel G (qa4 (l.take k)) /\ Below w1.heap.size w1 wr)
   (fun i _ => l.length - (intOf i).toNat)
  case atStart => exact ⟨0, _, Nat.zero_le _, rfl, hv2, hO, qvo, hb2⟩
  case round =>
   obtain ⟨k, G, hk, rfl, hvr, hOr, hgr, hbr⟩ := hrel; by_cases hlt2 : k < l.length
   · obtain ⟨bb, off, cap, arr, ty, fz, hsl, hbb, hcap, hsz, hcells⟩ := hvr.resolve_left (fun h => by rw [h.1] at hlt2; exact absurd hlt2 (Nat.not_lt_zero _)); simp only [Value.slice.injEq] at hsl; obtain ⟨rfl, -, rfl⟩ := hsl; obtain ⟨u, hcu, hdu⟩ := hcells k hlt2; have hld := qwa hbb hcu; have hlk := hlt.2 l[k] (List.getElem_mem hlt2); obtain ⟨hsm, hov⟩ := @qdc ⟨⟨True, #[]⟩⟩ _ hlk; have hok : okM (qa4 (l.take k)) := @boundM.ok ⟨⟨True, #[]⟩⟩ _ _ (@qcj ⟨⟨True, #[]⟩⟩ l hlt.2 k hk) (by omega); have happ := Tryz.apply hOr hgr hbr.size (e := l[k]) (u := qcg l[k] u) ⟨u, rfl, hdu⟩ hsm (by omega) hok; obtain ⟨SZ, mm, hSZ, hsz2, hm⟩ := qeS; obtain ⟨cs, hcs⟩ : ∃ cs : Array Value, (qaf l[k] u).toArray = cs := ⟨_, rfl⟩; have hcz : cs.size = mm := by rw [<- hcs]; exact (show (19 : Nat) = mm from Eq.symm hm)
     rw [show qcg l[k] u = .agg cs from by rw [<- hcs]; rfl] at happ; rw [hcs, <- (hm : mm = 19)] at hld; go_wp2_with (go_at_call 15; refine happ.mono ?_; rintro e wn ⟨rfl, hbn, hcn, G', hO', hg'⟩)
     exact ⟨⟨k + 1, G', hlt2, by go_num, hvr.cells hcn, hO', by rw [@qmO ⟨⟨True, #[]⟩⟩ l k hlt2]; exact hg', hbr.trans hbn⟩, by simp [intOf]; omega⟩
   · have hkl : k = l.length := by omega
     subst hkl; rw [List.take_length] at hgr; go_wp2; show Mid _ _ _ _ _ _
     have hS := qg2 hOr hgr hlt; letI : Inhabited DrP := qiR wr
     have hlaw := qtm (now := now) hlt hgr hS; refine Mid.mono (qvu (n := 2000) (c := qo2 4 (Tryz.f4.body.getD .skip)) zz1 rfl (qpV (qkg wr) (qux (qkg wr) ha)) rfl hlaw ?_ (qli wr)) ?_
     · exact .cons rfl (qoY (qlR l) (qrC hvr)) (.cons rfl (.int _ _) (.cons rfl (.wp _) .nil))
     · rintro e w' ⟨rfl, hb'⟩; exact ⟨rfl, (hb1.trans (hbr.mono hb1.size)).trans (hb'.mono (Nat.le_trans hb1.size hbr.size))⟩
end Go.Proofs
namespace Go.Proofs
open Go Go.Am Go.RowKit Go.Sy Go.Gm Go.Maps Go.Sort Go.Shelf
theorem qo1 [Inhabited DrP] {tab : Tab} {w : World} {tmps : Array Value} {ts : Fr} {t b : Nat} {k : CKey} {ty : TypeId} {fz : Nat × Nat} (h1 : tmps[t]? = some (.pointer (some ⟨b, 0, none⟩))) (hb : w.heap[b]? = some (.cells #[.string ⟨k.name.toArray⟩, .string ⟨k.domain.toArray⟩, .string ⟨k.path.toArray⟩] ty fz))
  (h : Slots tab w tmps ts) : Slots tab w tmps ((t, .rptr k.enc 0) :: ts) := by
 have hlt := (Array.getElem?_eq_some_iff.1 hb).1; refine h.put (av := .ptr b 0) h1 (fun E hE => by simp [conc, hE b hlt]) ?_; have hg : (rowH tab w).get b = some (.cells [.str k.name, .str k.domain, .str k.path] ty ((tab.siz.get ty).getD 1) false .ro) := by
  rw [qf9]; unfold rowO; rw [hb]; rfl
 refine .rptr b 0 _ ty _ false .ro (fun j => ([.str k.name, .str k.domain, .str k.path] : List AV)[j]?.getD .nilp) hg (Nat.le_refl 3) (fun j v hj => ?_) (fun j v hj => ?_)
 all_goals
  have hj3 : j < 3 := (List.getElem?_eq_some_iff.1 hj).1; match j, hj3 with
  | 0, _ | 1, _ | 2, _ => cases hj; first | rfl | exact .str _
end Go.Proofs
namespace Go.Proofs
open Go Go.Am Go.RowKit Go.Sy Go.Gm Go.Maps Go.Sort Go.Shelf
def awK : CKey := ⟨[110], [100], [47]⟩
def awE1 : CEvent := ⟨⟨0, 1, 1⟩, ⟨0, 0, 0⟩, 1, awK, ⟨[], false, false, false, false, 1099511627776, 0, 0⟩, []⟩
def awE2 : CEvent := ⟨⟨1, 1, 1⟩, ⟨5, 0, 1⟩, 1, awK, ⟨[108, 97, 116, 101], false, false, false, false, 1099511627776, 0, 0⟩, []⟩
def awL : List CEvent := [awE1, awE2]
section
variable [Inhabited DrP]
theorem qtl {b : Nat} {m : CMap} {x : CItem} (hS : Stands b m) (hI : qaC m = [x]) (hx : x.cookie.value = [108, 97, 116, 101]) (hD : (qp2 m awK).length = 2) : wp (cfgE qr3 (fun _ _ => none)) 2000
  ⟨zz61, 41, 0, [.code (qo2 5 (Tryz.f13.body.getD .skip))], ⟨[(1, .wp ⟨b, 0, none⟩), (2, .rptr awK.enc 0)], ⟨0, []⟩, []⟩⟩ isT := by
 (conv => whnf)
 refine ⟨some (b, m), ?_⟩
 repeat ((conv => whnf); first | refine ⟨rfl, ?_⟩ | refine ⟨trivial, ?_⟩)
 refine ⟨hS, ?_⟩; have hI' : qaC (Mp.m (some (b, m))) = [x] := hI; have hD' : (qp2 (Mp.m ((some (b, m), awK) : Mp × CKey).1) ((some (b, m), awK) : Mp × CKey).2).length = 2 := hD
 (conv => whnf)
 refine br_iff.2 ⟨fun _ => ?_, fun h => absurd h (by rw [hI']; simp)⟩
 (conv => whnf)
 refine so_iff.2 ⟨x, by rw [hI']; rfl, ?_⟩
 (conv => whnf)
 refine br_iff.2 ⟨fun _ => ?_, fun h => absurd h (by rw [hx]; simp)⟩
 (conv => whnf)
 refine ⟨((some (b, m), awK) : Mp × CKey), ?_⟩
 repeat ((conv => whnf); first | refine ⟨rfl, ?_⟩ | refine ⟨trivial, ?_⟩)
 refine ⟨hS, ?_⟩
 (conv => whnf)
 rw [hD']; rfl
end
theorem aw_light : qju awL := ⟨by decide, by decide +kernel⟩
theorem qps : qaC (qa4 awL) = [⟨awK, awE2.cookie⟩] := by kernel_rfl
theorem qrP : (qp2 (qa4 awL) awK).length = 2 := by kernel_rfl
theorem qfj {w : World} {b o : Nat} {arr : Array Value} {ty : TypeId} {fz : Nat × Nat} (h : w.heap[b]? = some (.cells arr ty fz)) : w.cell? ⟨b, o, none⟩ = arr[o]? := by simp [World.cell?, h]
theorem ok0 : okM qdq := ⟨by decide, fun x hx => (by cases hx), by decide, by decide⟩
theorem ok1 : okM (qax qdq awE1).1 := by
 letI : Inhabited DrP := ⟨⟨True, #[]⟩⟩
 exact (qcj (l := awL) aw_light.2 1 (by decide)).ok (by decide)
theorem qv7 (w : World) : Calls Tryz.prog 13 #[] w fun e w' => e = .returned (.bool true) /\ Below w.heap.size w w' := by
 refine qfG Tryz.func13 rfl ?_; simp only [Tryz.ntmps13, List.size_toArray, List.length_cons, List.length_nil, Nat.reduceAdd, Nat.reduceSub, Array.replicate_succ, Array.replicate_zero, List.push_toArray, List.append_toArray, List.nil_append, List.cons_append]; refine Mid.next Tryz.func13 ?_; go_wp2; show Mid _ _ _ _ _ _
 refine Mid.next Tryz.func13 ?_; have hnew := qvs w; go_wp2_with (go_at_call 14; refine hnew.mono ?_; rintro e w1 ⟨b, bk, ba, bd, bs, bv, rfl, hO, hb1⟩)
 show Mid _ _ _ _ _ _
 refine Mid.next Tryz.func13 ?_; go_wp2; show Mid _ _ _ _ _ _
 obtain ⟨W, hW⟩ : ∃ W, w1.alloc (.cells #[.string ⟨#[110]⟩, .string ⟨#[100]⟩, .string ⟨#[47]⟩] 24) = W := ⟨_, rfl⟩; rw [hW]; have hbW : Below w1.heap.size w1 W := by rw [<- hW]; exact (Below.refl _ _).alloc (Nat.le_refl _) _
 have hbb : W.heap[w1.heap.size]? = some (.cells #[.string ⟨#[110]⟩, .string ⟨#[100]⟩, .string ⟨#[47]⟩] 24 (0, 0)) := by rw [<- hW]; exact World.alloc_heap_new _ _
 have d0 := qfj (o := 0) hbb; have d1 := qfj (o := 1) hbb; have d2 := qfj (o := 2) hbb; have hOW := hO.below hbW; have happ1 := Tryz.apply hOW qvo (Nat.le_trans hb1.size hbW.size) (e := awE1) (u := (.agg #[.int .i64 0, .int .i64 1, .int .i64 1, .int .i64 0, .int .i64 0, .int .i64 0, .int .i64 1, .string ⟨#[110]⟩, .string ⟨#[100]⟩, .string ⟨#[47]⟩, .string ⟨#[]⟩, .bool false, .bool false, .bool false, .bool false, .int .i64 1099511627776, .int .i64 0, .int .i64 0, .slice none 0 0])) ⟨.slice none 0 0, rfl, .inl ⟨rfl, none, 0, rfl⟩⟩ ⟨by decide, by decide⟩ (by decide) ok0; refine Mid.next Tryz.func13 ?_; go_wp2_with (go_at_call 15; refine happ1.mono ?_; rintro e w2 ⟨rfl, hb2, hc2, G2, hO2, hg2⟩)
 show Mid _ _ _ _ _ _
 have hbb2 := hc2 _ _ _ _ hbb; have d0 := qfj (o := 0) hbb2; have d1 := qfj (o := 1) hbb2; have d2 := qfj (o := 2) hbb2; have hz2 : w.heap.size <= w2.heap.size := Nat.le_trans (Nat.le_trans hb1.size hbW.size) hb2.size; have happ2 := Tryz.apply hO2 hg2 hz2 (e := awE2) (u := (.agg #[.int .i64 1, .int .i64 1, .int .i64 1, .int .i64 5, .int .i64 0, .int .i64 1, .int .i64 1, .string ⟨#[110]⟩, .string ⟨#[100]⟩, .string ⟨#[47]⟩, .string ⟨#[108, 97, 116, 101]⟩, .bool false, .bool false, .bool false, .bool false, .int .i64 1099511627776, .int .i64 0, .int .i64 0, .slice none 0 0])) ⟨.slice none 0 0, rfl, .inl ⟨rfl, none, 0, rfl⟩⟩ ⟨by decide, by decide⟩ (by decide) ok1; refine Mid.next Tryz.func13 ?_; go_wp2_with (go_at_call 15; refine happ2.mono ?_; rintro e w3 ⟨rfl, hb3, hc3, G3, hO3, hg3⟩)
 show Mid _ _ _ _ _ _
 have hbb3 := hc3 _ _ _ _ hbb2; have hS := qg2 (l := awL) hO3 hg3 aw_light; letI : Inhabited DrP := qiR w3
 refine Mid.mono (qvu (n := 2000) (c := qo2 5 (Tryz.f13.body.getD .skip)) zz1 rfl (qlA (qkg w3)) rfl (qtl hS qps rfl qrP) ?_ (qli w3)) ?_
 · exact .cons rfl (.wp _) (qo1 rfl hbb3 .nil)
 · rintro e w' ⟨rfl, hb'⟩; have h1 := Nat.le_trans hz2 hb3.size; exact ⟨rfl, (((hb1.trans (hbW.mono hb1.size)).trans hb2).trans hb3).trans (hb'.mono h1)⟩
end Go.Proofs
namespace Go.Sy
open Go.Am Go.RowKit
universe u v
section
variable {H : Type} {enc : TypeId × Value -> H} {P : Program} {w : World} {base : Nat} {spare : Nat -> Bool} {held : Bool} {Fz : Nat -> Option AO} {N : Nat}
def Lies (Fz : Nat -> Option AO) (N : Nat) (l : List SV) (cs : List Value) : Prop := l.length = cs.length /\ ∀ (j : Nat) v u, l[j]? = some v -> cs[j]? = some u -> SimP Fz v (absV N u)
theorem Lies.nil : Lies Fz N [] [] := ⟨rfl, fun j v u h => by simp at h⟩
theorem Lies.cons {s : SV} {v : Value} {l : List SV} {m : List Value} (h : SimP Fz s (absV N v)) (t : Lies Fz N l m) : Lies Fz N (s :: l) (v :: m) := by
 refine ⟨by simp [t.1], fun i a b ha hb => ?_⟩
 cases i with
 | zero => simp at ha hb; subst ha; subst hb; exact h
 | succ i => exact t.2 i a b (by simpa using ha) (by simpa using hb)
theorem Lies.append {l l' : List SV} {m m' : List Value} (h : Lies Fz N l m) (h' : Lies Fz N l' m') : Lies Fz N (l ++ l') (m ++ m') := by
 refine ⟨by simp [h.1, h'.1], fun i a b ha hb => ?_⟩; by_cases hi : i < l.length
 · rw [List.getElem?_append_left hi] at ha; rw [List.getElem?_append_left (by rw [<- h.1]; exact hi)] at hb; exact h.2 i a b ha hb
 · rw [List.getElem?_append_right (by omega)] at ha; rw [List.getElem?_append_right (by rw [<- h.1]; omega), <- h.1] at hb; exact h'.2 _ a b ha hb
structure Dec (P : Program) (w : World) (base : Nat) (spare : Nat -> Bool) (held : Bool) {H : Type} (henc : TypeId × Value -> H) (Fz : Nat -> Option AO) (N : Nat) (t : TypeId) (X : Type) (enc : X -> List SV) : Prop where
 one : ∀ fuel cs x, DataW.trod henc P w base spare held fuel t cs = some x -> ∃ y : X, Lies Fz N (enc y) cs
variable (enc) in
abbrev Dec' (P : Program) (w : World) (base : Nat) (spare : Nat -> Bool) (held : Bool) (Fz : Nat -> Option AO) (N : Nat) (t : TypeId) (X : Type) (e : X -> List SV) : Prop := Dec P w base spare held enc Fz N t X e
theorem Dec.bool {t : TypeId} (ht : P.underlying t = some .bool) : Dec' enc P w base spare held Fz N t Bool (fun b => [.bool b]) := by
 refine ⟨fun fuel cs x h => ?_⟩; obtain ⟨b, rfl, _⟩ := DataW.trod_bool ht h; exact ⟨b, .cons (.bool b) .nil⟩
theorem Dec.int {t : TypeId} {k : IntKind} (ht : P.underlying t = some (.int k)) : Dec' enc P w base spare held Fz N t Int (fun b => [.int k b]) := by
 refine ⟨fun fuel cs x h => ?_⟩; obtain ⟨b, rfl, _⟩ := DataW.trod_int ht h; exact ⟨b, .cons (.int k b) .nil⟩
theorem Dec.str {t : TypeId} (ht : P.underlying t = some .string) : Dec' enc P w base spare held Fz N t (List UInt8) (fun b => [.str b]) := by
 refine ⟨fun fuel cs x h => ?_⟩; obtain ⟨s, rfl, _⟩ := DataW.trod_string ht h; exact ⟨s.data.toList, .cons (.str _) .nil⟩
theorem Dec.map {t : TypeId} {X Y : Type} {e : X -> List SV} {e' : Y -> List SV} (h : Dec' enc P w base spare held Fz N t X e) (f : X -> Y) (hf : ∀ x, e' (f x) = e x) : Dec' enc P w base spare held Fz N t Y e' := by
 refine ⟨fun fuel cs x hx => ?_⟩; obtain ⟨y, hy⟩ := h.one fuel cs x hx; exact ⟨f y, by rw [hf]; exact hy⟩
inductive Decs (P : Program) (w : World) (base : Nat) (spare : Nat -> Bool) (held : Bool) {H : Type} (henc : TypeId × Value -> H) (Fz : Nat -> Option AO) (N : Nat) : Nat -> List Field -> (X : Type) -> (X -> List SV) -> Prop
 | nil {o : Nat} : Decs P w base spare held henc Fz N o [] Unit (fun _ => [])
 | cons {o : Nat} {f : Field} {fs : List Field} {X Y : Type} {e : X -> List SV} {e' : Y -> List SV} (ho : f.offset = o) (h : Dec P w base spare held henc Fz N f.type X e) (t : Decs P w base spare held henc Fz N (o + P.cellsOf f.type) fs Y e') :
  Decs P w base spare held henc Fz N o (f :: fs) (X × Y) (fun y => e y.1 ++ e' y.2)
def sumC (P : Program) : List Field -> Nat
 | [] => 0
 | f :: fs => P.cellsOf f.type + sumC P fs
theorem Decs.run {o : Nat} {fs : List Field} {X : Type} {e : X -> List SV} (h : Decs P w base spare held enc Fz N o fs X e) : ∀ (cs : List Value) (n : Nat), cs.length = o + sumC P fs ->
  (∀ f ∈ fs, ∃ x, DataW.trod enc P w base spare held n f.type ((cs.drop f.offset).take (P.cellsOf f.type)) = some x) -> ∃ y : X, Lies Fz N (e y) (cs.drop o) := by
 induction h with
 | nil =>
  intro cs n hl _; refine ⟨(), ?_⟩; simp only [sumC] at hl; rw [List.drop_of_length_le (by omega)]; exact .nil
 | @cons o f fs X Y e e' ho h t ih =>
  intro cs n hl hf; simp only [sumC] at hl; obtain ⟨x, hx⟩ := hf f List.mem_cons_self; obtain ⟨y, hy⟩ := h.one n _ _ hx; obtain ⟨z, hz⟩ := ih cs n (by omega) (fun g hg => hf g (List.mem_cons_of_mem _ hg)); refine ⟨(y, z), ?_⟩; have := hy.append hz; rw [ho] at this; rw [show List.drop o cs = List.take (P.cellsOf f.type) (List.drop o cs) ++ List.drop (o + P.cellsOf f.type) cs by rw [<- List.drop_drop, List.take_append_drop]]; exact this
theorem Dec.struct {t : TypeId} {fs : Array Field} {X : Type} {e : X -> List SV} (ht : P.underlying t = some (.struct fs)) (hc : P.cellsOf t = sumC P fs.toList) (h : Decs P w base spare held enc Fz N 0 fs.toList X e) : Dec' enc P w base spare held Fz N t X e := by
 refine ⟨fun fuel cs x hx => ?_⟩; obtain ⟨xs, n, _, _, hl, hn, hg⟩ := DataW.trod_struct ht hx; have := h.run cs n (by rw [hl, hc]; simp) (fun f hf => by
  obtain ⟨i, hi⟩ := List.getElem?_of_mem hf; have h1 := hg i f (by simpa using hi); have hlt : i < fs.size := by
   have := (List.getElem?_eq_some_iff.1 hi).1; simpa using this
  rw [List.getElem?_eq_getElem (by omega)] at h1; exact ⟨_, h1⟩)
 simpa using this
end
end Go.Sy
namespace Go.Sy
open Go.Am Go.RowKit
end Go.Sy
namespace Go.Sy
open Go.Am Go.RowKit
variable [Inhabited DrP]
section
variable {H : Type} {enc : TypeId × Value -> H} {P : Program} {tab : Tab} {w : World} {base : Nat} {spare : Nat -> Bool} {held : Bool}
theorem qnN {a : Addr} {k : Nat} {u : Value} (hs : a.spot = none) (h : w.cell? (a.add k) = some u) : ∃ arr e fz, w.heap[a.block]? = some (.cells arr e fz) /\ arr[a.off + k]? = some u := by
 obtain ⟨b, o, s⟩ := a; simp only at hs; subst hs; have e2 : (⟨b, o, none⟩ : Addr).add k = ⟨b, o + k, none⟩ := by unfold Addr.add; split <;> simp_all
 rw [e2] at h; unfold World.cell? at h; split at h
 · rename_i arr e fz hb; simp only [Option.isSome_none, Bool.false_eq_true, if_false] at h; exact ⟨arr, e, fz, hb, h⟩
 · cases h
theorem Dec.slice {t e n : Nat} (ht : P.underlying t = some (.slice e)) (hn : P.cellsOf e = n) (h0 : 0 < n) {X : Type} {ex : X -> List SV} (hx : ∀ x, (ex x).length = n)
   (h : Dec' enc P w base spare held (rowH tab w).get w.heap.size e X ex) : Dec' enc P w base spare held (rowH tab w).get w.heap.size t (List X) (fun L => [.lst X L ex]) := by
 refine ⟨fun fuel cs x hd => ?_⟩; rcases DataW.trod_slice ht hd with ⟨rfl, _⟩ | ⟨a, len, cap, elems, rest, m, _, rfl, _, hb, hle, hc, hel, hi, _, _⟩
 · exact ⟨[], .cons (.lst0 rfl (.inl rfl)) .nil⟩
 · have each : ∀ i : Fin len, ∃ y : X, ∃ cs', w.cells? base (a.add (i.val * n)) n = some cs' /\ Lies (rowH tab w).get w.heap.size (ex y) cs' := by
     intro i; have h1 := hi i.val i.isLt; rw [List.getElem?_eq_getElem (by rw [hel]; exact i.isLt)] at h1; obtain ⟨cs', h2, h3⟩ := Option.bind_eq_some_iff.1 h1; rw [hn] at h2; obtain ⟨y, hy⟩ := h.one _ _ _ h3; exact ⟨y, cs', h2, hy⟩
   obtain ⟨f, hf⟩ := Classical.skolem.1 each; by_cases hl : len = 0
   · subst hl; exact ⟨[], .cons (.lst0 rfl (.inr (.inr ⟨some a, cap, qh0 _ _ _⟩))) .nil⟩
   · have cell : ∀ (i : Fin len) (j : Nat) v, (ex (f i))[j]? = some v -> ∃ u, w.cell? ((a.add (i.val * n)).add j) = some u /\ SimP (rowH tab w).get v (absV w.heap.size u) := by
      intro i j v hv; obtain ⟨cs', h2, h3⟩ := hf i; have hj : j < n := by rw [<- hx (f i)]; exact (List.getElem?_eq_some_iff.1 hv).1
      unfold World.cells? at h2; split at h2
      · have h4 := mapM_some_get h2 j j (by simp [hj]); have hlt : j < cs'.length := by rw [<- h3.1, hx]; exact hj
        rw [List.getElem?_eq_getElem hlt] at h4; exact ⟨_, h4, h3.2 j v _ hv (List.getElem?_eq_getElem hlt)⟩
      · cases h2
     have hadd : ∀ i j, (a.add i).add j = a.add (i + j) := by
      intro i j; unfold Addr.add; by_cases hi : i = 0
      · subst hi; simp
      · by_cases hj : j = 0
        · subst hj; simp [hi]
        · simp [hi, hj, Nat.add_assoc]
     have hl0 : 0 < (ex (f ⟨0, by omega⟩)).length := by rw [hx (f ⟨0, by omega⟩)]; exact h0
     obtain ⟨v0, hv0⟩ : ∃ v, (ex (f ⟨0, by omega⟩))[0]? = some v := ⟨_, List.getElem?_eq_getElem hl0⟩; obtain ⟨u0, hu0, _⟩ := cell ⟨0, by omega⟩ 0 v0 hv0; rw [hadd] at hu0; have hspot : a.spot = none := by
      have := World.cell?_spot hu0; simpa [Addr.add] using this
     obtain ⟨arr, et, fz, hblk, _⟩ := qnN hspot hu0; have hcell : ∀ (i : Nat) x (j : Nat) v, (List.ofFn f)[i]? = some x -> (ex x)[j]? = some v -> ∃ u, arr[a.off + i * n + j]? = some u /\ SimP (rowH tab w).get v (absV w.heap.size u) := by
      intro i x j v hx' hv; have hil : i < len := by have := (List.getElem?_eq_some_iff.1 hx').1; simpa using this
      have hxe : x = f ⟨i, hil⟩ := by
        rw [List.getElem?_eq_getElem (by simpa using hil)] at hx'; simpa using (Option.some.inj hx').symm
      subst hxe; obtain ⟨u, hu, hs⟩ := cell ⟨i, hil⟩ j v hv; rw [hadd] at hu; obtain ⟨arr', et', fz', hblk', hu'⟩ := qnN hspot hu; rw [hblk] at hblk'
      cases hblk'; exact ⟨u, by rw [Nat.add_assoc]; exact hu', hs⟩
     refine ⟨List.ofFn f, .cons ?_ .nil⟩; have hspec : (⟨a.block, a.off, none⟩ : Addr) = a := by obtain ⟨b, o, s⟩ := a; simp only at hspot; subst hspot; rfl
     rw [<- hspec]; have hlast : a.off + (List.ofFn f).length * n <= arr.size := by
      have hl1 : n - 1 < (ex (f ⟨len - 1, by omega⟩)).length := by rw [hx (f ⟨len - 1, by omega⟩)]; omega
      obtain ⟨v1, hv1⟩ : ∃ v, (ex (f ⟨len - 1, by omega⟩))[n - 1]? = some v := ⟨_, List.getElem?_eq_getElem hl1⟩; obtain ⟨u1, hu1, _⟩ := hcell (len - 1) (f ⟨len - 1, by omega⟩) (n - 1) v1 (by rw [List.getElem?_eq_getElem (by simp; omega)]; simp) hv1; have := (Array.getElem?_eq_some_iff.1 hu1).1; simp only [List.length_ofFn]; have e3 : len * n = (len - 1) * n + n := by
        conv => lhs; rw [show len = (len - 1) + 1 by omega]
        rw [Nat.add_mul, Nat.one_mul]
      omega
     exact qiC hblk h0 (fun x _ => hx x) hlast (by simp) hle hcell
end
end Go.Sy
/- The laws of view: what an argument may be. -/
namespace Go.Proofs.VwL
open Go Go.Am Go.ChangeShapes Go.WideShapes Go.ChangeAt Go.RowKit
open Go.Sy hiding ask
instance noDr : Inhabited DrP := ⟨⟨False, #[]⟩⟩
section
variable {H : Type} {enc : TypeId × Value -> H} {w : World} {base : Nat} {spare : Nat -> Bool} {held : Bool} {Fz : Nat -> Option AO} {N : Nat}
theorem dKey : Dec Tryz.prog w base spare held enc Fz N 24 CKey CKey.enc :=
 Dec.map (Dec.struct Tryz.underlying24 (by kernel_rfl)
  (.cons (by kernel_rfl) (Dec.str Tryz.underlying9) (.cons (by kernel_rfl) (Dec.str Tryz.underlying9) (.cons (by kernel_rfl) (Dec.str Tryz.underlying9) .nil)))) (fun x => ⟨x.1, x.2.1, x.2.2.1⟩) (fun x => rfl)
theorem qsa : Dec Tryz.prog w base spare held enc Fz N 39 CCookie CCookie.enc :=
 Dec.map (Dec.struct Tryz.underlying39 (by kernel_rfl)
  (.cons (by kernel_rfl) (Dec.str Tryz.underlying9) (.cons (by kernel_rfl) (Dec.bool Tryz.underlying4) (.cons (by kernel_rfl) (Dec.bool Tryz.underlying4) (.cons (by kernel_rfl) (Dec.bool Tryz.underlying4) (.cons (by kernel_rfl) (Dec.bool Tryz.underlying4)
   (.cons (by kernel_rfl) (Dec.int Tryz.underlying3) (.cons (by kernel_rfl) (Dec.int Tryz.underlying3) (.cons (by kernel_rfl) (Dec.int Tryz.underlying3) .nil))))))))) (fun x => ⟨x.1, x.2.1, x.2.2.1, x.2.2.2.1, x.2.2.2.2.1, x.2.2.2.2.2.1, x.2.2.2.2.2.2.1, x.2.2.2.2.2.2.2.1⟩) (fun x => rfl)
theorem dDot : Dec Tryz.prog w base spare held enc Fz N 35 CDot CDot.enc :=
 Dec.map (Dec.struct Tryz.underlying35 (by kernel_rfl)
  (.cons (by kernel_rfl) (Dec.struct Tryz.underlying33 (by kernel_rfl) (.cons (by kernel_rfl) (Dec.int Tryz.underlying3) (.cons (by kernel_rfl) (Dec.int Tryz.underlying3) .nil))) (.cons (by kernel_rfl) (Dec.int Tryz.underlying3) .nil))) (fun x => ⟨x.1.1, x.1.2.1, x.2.1⟩) (fun x => rfl)
theorem qtZ : Dec Tryz.prog w base spare held enc Fz N 37 CStamp (fun s => [.int .i64 s.wall, .int .i64 s.count, .int .i64 s.dev]) :=
 Dec.map (Dec.struct Tryz.underlying37 (by kernel_rfl)
  (.cons (by kernel_rfl) (Dec.int Tryz.underlying3) (.cons (by kernel_rfl) (Dec.int Tryz.underlying3) (.cons (by kernel_rfl) (Dec.int Tryz.underlying3) .nil)))) (fun x => ⟨x.1, x.2.1, x.2.2.1⟩) (fun x => rfl)
theorem qvD : Dec Tryz.prog w base spare held enc (rowH Tryz.tab w).get w.heap.size 40 (List CDot) (fun L => [.lst CDot L CDot.enc]) := Dec.slice Tryz.underlying40 (show Tryz.prog.cellsOf 35 = 3 by kernel_rfl) (by omega) (fun _ => rfl) dDot
theorem qtY : Dec Tryz.prog w base spare held enc (rowH Tryz.tab w).get w.heap.size 42 CEvent CEvent.enc :=
 Dec.map (Dec.struct Tryz.underlying42 (by kernel_rfl)
  (.cons (by kernel_rfl) dDot (.cons (by kernel_rfl) qtZ (.cons (by kernel_rfl) (Dec.int Tryz.underlying3) (.cons (by kernel_rfl) dKey (.cons (by kernel_rfl) qsa (.cons (by kernel_rfl) qvD .nil))))))) (fun x => ⟨x.1, x.2.1, x.2.2.1, x.2.2.2.1, x.2.2.2.2.1, x.2.2.2.2.2.1⟩) (fun x => rfl)
theorem dEvents : Dec Tryz.prog w base spare held enc (rowH Tryz.tab w).get w.heap.size 22 (List CEvent) (fun L => [.lst CEvent L CEvent.enc]) := Dec.slice Tryz.underlying22 (show Tryz.prog.cellsOf 42 = 19 by kernel_rfl) (by omega) (fun _ => rfl) qtY
theorem qkv {b0 : Nat} {r : Reach} {v : Value} {d : DataW H} {p : List MemPlace} (hv : Value.okWide Tryz.prog w r b0 22 v) (h : DataW.Trod enc Tryz.prog w base spare held 22 v d p) :
  ∃ l : List CEvent, EvsV w l v := by
 obtain ⟨a, n, c, rfl⟩ := okWide_slice Tryz.underlying22 hv; obtain ⟨fuel, hf⟩ := h; obtain ⟨l, hl⟩ := dEvents.one _ _ _ hf; exact ⟨l, qt2 (quB (hl.2 0 _ _ rfl rfl))⟩
end
end Go.Proofs.VwL
