/- An evaluator over symbolic values, proved sound over the model's machine, and its use at this seat; no condition. Part 2. -/
import Derived.Calls
import Derived.WalkKit
import Derived.Maps.OwnOps
import Derived.Test.YtmfohfbdddlilaaGreatProg
import Derived.KernelRfl
import Derived.Test.YtmfohfbdddlilaaGreatP1
set_option linter.unusedSimpArgs false
set_option linter.unusedVariables false
set_option linter.unusedSectionVars false
set_option linter.deprecated false
namespace Go.Sy
open Go.Am Go.RowKit
universe u v
variable [Inhabited DrP]
section
variable {tab : Tab} {view : TypeId -> Option View} {C : Cx} {s : St} {ta : T AV} {a : AH} {h : SH}
theorem qkG (s : St) (b p : Nat) (X : Type) (L : List X) (enc : X -> List SV) : ((s.ev (.frz b X L enc)).del b).h.get p = if p = b then none else (s.h.get p).map (SO.on (.frz b X L enc)) := by
 obtain ⟨ts, ⟨n, os⟩, log⟩ := s; simp only [St.ev, St.del, SH.get_set]; by_cases e : p = b
 · simp [e]
 · simp only [if_neg e]; exact qft _ _ _ _
theorem qkF : ∀ (l : List SV) (s : St) (p : Nat), s.h.get p = none -> (qbq l s).h.get p = none := by
 intro l; induction l with
 | nil => intro s p h; exact h
 | cons x l ih =>
  intro s p h
  cases x with
  | own b =>
   simp only [qbq]; split
   · refine ih _ p ?_; rw [qkG]; split
     · rfl
     · rw [h]; rfl
   · exact ih s p h
  | _ => exact ih s p h
theorem qjt : ∀ (l : List SV) (s : St) (C : Cx), FS C s.ts ta -> HS tab C s.h a -> ∃ C' new, (qbq l s).log = s.log ++ new /\ Tr C new C' /\ HS tab C' (qbq l s).h a /\ FS C' (qbq l s).ts ta /\
  Stays C s.h a C' (qbq l s).h /\ qcB new .nils = .nils /\ ∀ d o, (qbq l s).h.get d = some o -> qcB new (.own d) = .own d /\ ∀ off n c, qcB new (.sl d off n c) = .sl d off n c := by
 intro l; induction l with
 | nil => intro s C hF H; exact ⟨C, [], by simp [qbq], Tr.refl C, H, hF, Stays.refl _ _ _, rfl, fun d o _ => ⟨rfl, fun _ _ _ => rfl⟩⟩
 | cons x l ih =>
  intro s C hF H; have skip : qbq (x :: l) s = qbq l s -> ∃ C' new, (qbq (x :: l) s).log = s.log ++ new /\ Tr C new C' /\ HS tab C' (qbq (x :: l) s).h a /\ FS C' (qbq (x :: l) s).ts ta /\
     Stays C s.h a C' (qbq (x :: l) s).h /\ qcB new .nils = .nils /\ ∀ d o, (qbq (x :: l) s).h.get d = some o -> qcB new (.own d) = .own d /\ ∀ off n c, qcB new (.sl d off n c) = .sl d off n c := by
   intro e; rw [e]; exact ih s C hF H
  cases x with
  | own b =>
   simp only [qbq] at skip ⊢; split
   · rename_i X L enc t hb; obtain ⟨C1, e1, e2, e3, e4, _, e6⟩ := zz56 hF H hb; obtain ⟨C2, new, f1, f2, f3, f4, f7, f5, f6⟩ := ih _ C1 e4 e3; refine ⟨C2, _, by rw [f1, e1, List.append_assoc], e2.trans f2, f3, f4, e6.trans f7 f2.fz, ?_, fun d o hd => ?_⟩
     · rw [qcG]; simp only [qcB, SV.on]; exact f5
     · have hne : d ≠ b := by
         intro e; subst e; rw [qkF l _ d (by rw [qkG, if_pos rfl])] at hd; cases hd
       obtain ⟨g1, g2⟩ := f6 d o hd; constructor
       · rw [qcG]; simp only [qcB, SV.on, qa4 hne, cond_false]; exact g1
       · intro off n c; rw [qcG]; simp only [qcB, SV.on, qa4 hne, cond_false]; exact g2 off n c
   · exact ih s C hF H
  | _ => exact skip rfl
theorem qo0 (s : St) (d : Nat) (o : SO) : (((s.ev (.kill d)).setO d o).note (.mod d)).log = s.log ++ [.kill d, .mod d] /\ (((s.ev (.kill d)).setO d o).note (.mod d)).h = ⟨s.h.next, (d, some o) :: onH (.kill d) s.h.os⟩ /\
  (((s.ev (.kill d)).setO d o).note (.mod d)).ts = onF (.kill d) s.ts := by
 obtain ⟨ts, ⟨n, os⟩, log⟩ := s; exact ⟨by simp [St.ev, St.setO, St.note], rfl, rfl⟩
theorem St.new_h (s : St) (o : SO) : (s.new o).h = s.h.new o /\ (s.new o).ts = s.ts /\ (s.new o).log = s.log := by
 obtain ⟨ts, h, log⟩ := s; exact ⟨rfl, rfl, rfl⟩
theorem Turns.kill_tr {C C' : Cx} {d : Nat} (h : Turns C (.kill d) C') : Tr C [.kill d, .mod d] C' :=
 h.tr.trans (l := [.kill d]) (Turns.tr (e := .mod d) ⟨fun _ _ h => h, fun _ _ h => h⟩)
theorem qlk (hF : FS C s.ts ta) (H : HS tab C s.h a) {d : Nat} {X : Type} {L M : List X} {enc : X -> List SV} {e n by_ : Nat} {u : AV} {news : List AV} {K : SV -> St -> Prop} (hd : s.h.get d = some (.arr X L enc e)) (hv : SimV C (.own d) u) (hn : tab.siz.get e = some n) (hn0 : n ≠ 0)
  (hz : qdv tab e n = .ok ()) (hroom : qhU by_ (L.length + M.length)) (hM : Told C.Fz X M enc n news) (hk : K (.own d) (((s.ev (.kill d)).setO d (.arr X (L ++ M) enc e)).note (.mod d))) :
  Does tab C s ta a K (Am.appendOp tab a e n by_ u M.length news) := by
 obtain ⟨I, v, a', h1, h2, h3, h4, h5, h6⟩ := qiW H hd hv hn hn0 hz hroom hM; obtain ⟨e1, e2, e3⟩ := qo0 s d (.arr X (L ++ M) enc e); exact ⟨_, _, v, a', hk, h1, ⟨C.put d I, _, e1, h2.kill_tr, h4, by rw [e2]; exact h3, by rw [e3]; exact hF.turns h2, by rw [e2]; exact h6⟩, h5⟩
theorem qgm (hF : FS C s.ts ta) (H : HS tab C s.h a) {X : Type} {M : List X} {enc : X -> List SV} {e n by_ : Nat} {news : List AV} {K : SV -> St -> Prop} (hn : tab.siz.get e = some n) (hn0 : n ≠ 0)
  (hz : qdv tab e n = .ok ()) (hroom : qhU by_ M.length) (hM : Told C.Fz X M enc n news) (hk : K (.own s.h.next) (s.new (.arr X M enc e))) : Does tab C s ta a K (Am.appendOp tab a e n by_ .nils M.length news) := by
 obtain ⟨I, v, a', h1, h2, h3, h4, h5, h6⟩ := qiV H hn hn0 hz hroom hM; obtain ⟨e1, e2, e3⟩ := s.new_h (.arr X M enc e); exact ⟨_, _, v, a', hk, h1, ⟨_, [], by rw [e3]; simp, h2.tr, h4, by rw [e1]; exact h3, by rw [e2]; exact hF.le h2, by rw [e1]; exact h6⟩, h5⟩
theorem qe0 (l m : List Ev) : qcy (l ++ m) = qcy l ++ qcy m := by
 induction l with
 | nil => rfl
 | cons e l ih => cases e <;> simp [qcy, ih]
theorem Does.later {C1 : Cx} {s1 : St} {new : List Ev} {K : SV -> St -> Prop} {r : R (AV × AH)} (hl : s1.log = s.log ++ new) (ht : Tr C new C1) (hk : Stays C s.h a C1 s1.h) (h : Does tab C1 s1 ta a K r) : Does tab C s ta a K r := by
 obtain ⟨sv, s', v, a', h1, h2, ⟨C', new', g1, g2, g3, g4, g5, g6⟩, h4⟩ := h; refine ⟨sv, s', v, a', h1, h2, ⟨C', new ++ new', by rw [g1, hl, List.append_assoc], ht.trans g2, g3, g4, g5, ?_⟩, h4⟩; intro p o I hp hI hc hn; rw [qe0] at hn; rcases hk p o I hp hI hc with ⟨o', q1, q2⟩ | ⟨b, q1, q2⟩
 · exact g6 p o' I q1 q2 hc (fun e => hn (List.mem_append_right _ e))
 · exact ⟨by rw [q1]; exact g4.fz _ _ (g2.fz _ _ q2), .inr ⟨b, g2.fz _ _ q2⟩⟩
theorem qhv (hF : FS C s.ts ta) (H : HS tab C s.h a) {e n by_ : Nat} (hn : tab.siz.get e = some n) (hn0 : n ≠ 0) (hz : qdv tab e n = .ok ()) {x : SV} {u w : AV} (hx : x = .nils -> SimV C x u) (hx' : ∀ d o, x = .own d -> s.h.get d = some o -> SimV C x u) {Y : Type} {M : List Y} {enc' : Y -> List SV} (hy : SimP C.Fz (.lst Y M enc') w)
   {K : SV -> St -> Prop} (h : appL s e n by_ x Y M enc' K) : ∃ m news, source a n w = .ok (m, news) /\ Does tab C s ta a K (Am.appendOp tab a e n by_ u m news) := by
 unfold appL at h; split at h
 · obtain ⟨he, h1⟩ := h; obtain ⟨hr, hk⟩ := qaB h1; obtain ⟨news, g1, g2⟩ := qh0 H.fz hy hn0 he; rw [qdh (hx rfl)]; exact ⟨_, _, g1, qgm hF H hn hn0 hz hr g2 hk⟩
 · rename_i d; split at h
   · rename_i X L enc e' hd; obtain ⟨hee, h1⟩ := qaB h; clear h; have hee := Nat.eq_of_beq_eq_true hee; subst hee; obtain ⟨he, M', hM', h2⟩ := h1; obtain ⟨hr, hk⟩ := qaB h2; obtain ⟨news, g1, g2⟩ := qh0 H.fz hy hn0 he
     cases hM'; exact ⟨_, _, g1, qlk hF H hd (hx' d _ rfl hd) hn hn0 hz hr g2 hk⟩
   · exact h.elim
 · exact h.elim
theorem qmr (hF : FS C s.ts ta) (H : HS tab C s.h a) {e n by_ m : Nat} (hn : tab.siz.get e = some n) (hn0 : n ≠ 0) (hz : qdv tab e n = .ok ()) {x : SV} {u : AV} (hx : x = .nils -> SimV C x u) (hx' : ∀ d o, x = .own d -> s.h.get d = some o -> SimV C x u) {cs : List SV} {ca : List AV} (hc : SimL C cs ca)
   (hl : cs.length = m * n) (hp : cs.all qdI = true) {K : SV -> St -> Prop} (h : appC view s e n by_ m x cs K) : Does tab C s ta a K (Am.appendOp tab a e n by_ u m ca) := by
 unfold appC at h; split at h
 · split at h
   · rename_i V hV; obtain ⟨l, h1, h2, h3⟩ := qrw h; obtain ⟨hr, hk⟩ := qaB h3; rw [qgx] at h1; have := qgm hF H hn hn0 hz hr (qew hn0 hc hl hp h1 h2) hk; rw [h1] at this; rw [qdh (hx rfl)]; exact this
   · exact h.elim
 · rename_i d; split at h
   · rename_i X L enc e' hd; obtain ⟨hee, h1⟩ := qaB h; clear h; have hee := Nat.eq_of_beq_eq_true hee; subst hee; obtain ⟨l, h1, h2, h3⟩ := qrw h1; obtain ⟨hr, hk⟩ := qaB h3; rw [qgx] at h1; have := qlk hF H hd (hx' d _ rfl hd) hn hn0 hz hr (qew hn0 hc hl hp h1 h2) hk; rw [h1] at this; exact this
   · exact h.elim
 · exact h.elim
theorem qms (hF : FS C s.ts ta) (H : HS tab C s.h a) {e : TypeId} {x y : SV} {u w : AV} (hx : SimV C x u) (hy : SimV C y w) {K : SV -> St -> Prop} (h : qkf tab view s e x y K) :
   ∃ n by_, tab.siz.get e = some n /\ tab.byt.get e = some by_ /\ n ≠ 0 /\ ∃ m news, source a n w = .ok (m, news) /\ Does tab C s ta a K (Am.appendOp tab a e n by_ u m news) := by
 unfold qkf at h; split at h
 · rename_i n by_ hn hby; refine ⟨n, by_, hn, hby, ?_⟩; obtain ⟨hck, hh⟩ := qaB h; clear h; simp only [Bool.and_eq_true, Bool.not_eq_true'] at hck; obtain ⟨hn0, hzz⟩ := hck; have hn0 : n ≠ 0 := fun e => by subst e; simp at hn0
   refine ⟨hn0, ?_⟩; have hz : qdv tab e n = .ok () := by
     split at hzz
     · rename_i z hz; obtain ⟨zv, zc, g1, g2, g3⟩ := qdp (C := C) hz; unfold qdv; rw [rb g1, rb g2]; exact rc (by rw [<- g3.1]; exact hzz)
     · cases hzz
   clear hzz; split at hh
   ·
     rename_i b off m cap; split at hh
     · rename_i cs0 t0 hb0; obtain ⟨C1, new, f1, f2, f3, f4, f7, f5, f6⟩ := qjt ((cs0.drop off).take (m * n)) s C hF H; have hx1 := f2.val _ _ hx; have hy1 := f2.val _ _ hy; generalize qbq ((cs0.drop off).take (m * n)) s = s1 at *
       split at hh
       · rename_i cs t1 hb1; obtain ⟨hck, hh⟩ := qaB hh; simp only [Bool.and_eq_true] at hck; have hle := Nat.le_of_ble_eq_true hck.1; rw [(f6 b _ hb1).2] at hy1
         cases hy1 with
         | pure hy1 => cases hy1
         | sl hI =>
          rename_i I; obtain ⟨hcap, ca, sz, k1, k2, _⟩ := f3.at_ hb1 hI; have hsub := (k2.drop off).take (m * n); have hsrc : source a n (.sl I.β off m (.lit cap)) = .ok (m, (ca.drop off).take (m * n)) := by
            have hr : readN a I.β off (m * n) = .ok ((ca.drop off).take (m * n)) := by
             unfold readN; rw [rb (qau k1)]; simp only; rw [rb (rc (by simp only [Nat.ble_eq]; rw [<- k2.1]; exact hle))]
            simp only [source]; rw [rb hr]
          refine ⟨m, _, hsrc, Does.later f1 f2 f7 (qmr f4 f3 hn hn0 hz (fun e => ?_) (fun d o e hd => ?_) hsub (by simp; omega) hck.2 hh)⟩
          · subst e; rw [f5] at hx1; exact hx1
          · subst e; rw [(f6 d o hd).1] at hx1; exact hx1
       · exact hh.elim
     · exact hh.elim
   · exact qhv hF H hn hn0 hz (fun _ => hx) (fun _ _ _ _ => hx) (qbW hy rfl) hh
   ·
     rename_i b; split at hh
     · rename_i Y M enc' t' hb; obtain ⟨C1, e1, e2, e3, e4, e5, e6⟩ := zz56 hF H hb; have hx1 := e2.val _ _ hx; obtain ⟨m, news, g1, g2⟩ := qhv (u := u) e4 e3 hn hn0 hz (fun e => by subst e; exact hx1) (fun d o e hd => by
         subst e; have hne : d ≠ b := by
          intro e; subst e; rw [qkG, if_pos rfl] at hd; cases hd
         simp only [qcB, SV.on, qa4 hne, cond_false] at hx1; exact hx1) (e5 w hy) hh
       exact ⟨m, news, g1, g2.later e1 e2 e6⟩
     · exact hh.elim
   · split at hh
     · rw [qdh hy, qdh hx]; exact ⟨0, [], rfl, by simpa [Am.appendOp] using Does.same hF H (.pure .nils) hh⟩
     · exact hh.elim
   · exact hh.elim
 · exact h.elim
end
end Go.Sy
namespace Go.Sy
open Go.Am Go.RowKit
universe u v
variable [Inhabited DrP]
section
variable {tab : Tab} {view : TypeId -> Option View} {C : Cx} {s : St} {ta : T AV} {a : AH} {h : SH}
theorem qoA {k : IntKind} : ∀ {l : List SV} {m : List AV} {x : Int} {sv : SV}, SimL C l m -> minS k x l = some sv -> ∃ v, qgT k x m = .ok v /\ SimV C sv v := by
 intro l; induction l with
 | nil => intro m x sv hs h; cases m with
  | nil => cases h; exact ⟨_, rfl, .pure (.int _ _)⟩
  | cons => have := hs.1; simp at this
 | cons y l ih => intro m x sv hs h; cases m with
  | nil => have := hs.1; simp at this
  | cons w m =>
   cases y <;> simp only [minS] at h <;> first | (cases h; done) | skip
   obtain ⟨h1, h2⟩ := hs.head; rw [qbL h1]; simp only [qgT]; exact ih h2 h
theorem qow {k : IntKind} : ∀ {l : List SV} {m : List AV} {x : Int} {sv : SV}, SimL C l m -> maxS k x l = some sv -> ∃ v, qgS k x m = .ok v /\ SimV C sv v := by
 intro l; induction l with
 | nil => intro m x sv hs h; cases m with
  | nil => cases h; exact ⟨_, rfl, .pure (.int _ _)⟩
  | cons => have := hs.1; simp at this
 | cons y l ih => intro m x sv hs h; cases m with
  | nil => have := hs.1; simp at this
  | cons w m =>
   cases y <;> simp only [maxS] at h <;> first | (cases h; done) | skip
   obtain ⟨h1, h2⟩ := hs.head; rw [qbL h1]; simp only [qgS]; exact ih h2 h
theorem qor (H : HS tab C s.h a) {e : TypeId} {x : SV} {v : AV} (hx : SimV C x v) {n : Nat} (hn : lenS s x = some n) : lenOf a (.slice e) v = .ok n := by
 unfold lenS at hn; split at hn
 · cases hn; rw [qdh hx]; rfl
 · cases hn
   cases hx with
   | pure hx => cases hx with
     | lst0 h0 hv =>
      rw [h0]; rcases hv with rfl | ⟨b, off, l, n, k, rfl⟩ | ⟨a, c, rfl⟩ <;> rfl
     | lst b off cap cs e sz ext bk u hb hs hl hn hc h1 h2 => rfl
 · cases hn
   cases hx with
   | pure hx => cases hx
   | sl hI => rfl
 · rename_i b; split at hn
   · rename_i X L enc t hb
     cases hn
     cases hx with
     | pure hx => cases hx
     | own0 hI hc =>
      obtain ⟨_, _, g3, _, g5⟩ := H.at_ hb hI; rw [hc] at g5; rw [g5]; rfl
     | own hI hc =>
      obtain ⟨_, _, g3, _, g5⟩ := H.at_ hb hI; simp only [lenOf]; rw [g3]
   · cases hn
 · cases hn
theorem qkp (hF : FS C s.ts ta) (H : HS tab C s.h a) {b : Builtin} {ats : Array TypeId} {l : List SV} {vs : List AV} (hl : SimL C l vs) {K : SV -> St -> Prop} (h : qdU tab view s b ats l K) : Does tab C s ta a K (Am.builtin tab b ats vs a) := by
 unfold qdU at h; split at h
 ·
   rename_i x; have hv : ∃ v, vs = [v] /\ SimV C x v := by
    cases vs with
    | nil => have := hl.1; simp at this
    | cons v vs => cases vs with
      | nil => exact ⟨v, rfl, hl.head.1⟩
      | cons => have := hl.1; simp at this
   obtain ⟨v, rfl, hx⟩ := hv; unfold Am.builtin; simp only
   cases ht : ats[0]? with
   | none => rw [ht] at h; simp at h
   | some t =>
    rw [ht] at h; simp only [Option.bind_some] at h; rw [rb (ro rfl)]; split at h
    · rename_i hg; split at h
      · rw [qbA hx, rb (show und tab t = _ from ro hg)]; exact Does.same hF H (.pure (.int _ _)) h
      · exact h.elim
    · rename_i e hg; obtain ⟨n, h1, h2⟩ := qaK h; rw [rb (show und tab t = _ from ro hg)]; simp only; rw [rb (qor H hx h1)]; exact Does.same hF H (.pure (.int _ _)) h2
    · exact h.elim
 ·
   rename_i x y; have hv : ∃ u w, vs = [u, w] /\ SimV C x u /\ SimV C y w := by
    cases vs with
    | nil => have := hl.1; simp at this
    | cons v vs => cases vs with
      | nil => have := hl.1; simp at this
      | cons w vs => cases vs with
        | nil => exact ⟨v, w, rfl, hl.head.1, hl.head.2.head.1⟩
        | cons => have := hl.1; simp at this
   obtain ⟨u, w, rfl, hx, hy⟩ := hv
   cases ht : ats[0]? with
   | none => rw [ht] at h; simp at h
   | some t =>
    cases ht1 : ats[1]? with
    | none => rw [ht, ht1] at h; simp at h
    | some t1 =>
      rw [ht, ht1] at h; simp only [Option.bind_some] at h; split at h
      · rename_i e e' hg hg'; obtain ⟨n, by_, hn, hby, hn0, m, news, h1, h2⟩ := qms hF H hx hy h; unfold Am.builtin; simp only; rw [ht, ht1, rb (show R.of "append" (some t) = .ok t from rfl), rb (show R.of "append" (some t1) = .ok t1 from rfl), rb (show und tab t1 = _ from ro hg')]; simp only; rw [rb (show und tab t = _ from ro hg)]; simp only; rw [rb (show siz tab e = _ from ro hn), rb (show R.of "byt" (tab.byt.get e) = .ok by_ from ro hby), rb (rc (by simp only [Bool.not_eq_true']; exact qa4 hn0)), rb h1]; exact h2
      · exact h.elim
 ·
   rename_i k x l
   cases vs with
   | nil => have := hl.1; simp at this
   | cons v vs =>
    obtain ⟨h1, h2⟩ := hl.head; rw [qbL h1]; obtain ⟨sv, h3, h4⟩ := qaK h; obtain ⟨v, h5, h6⟩ := qoA h2 h3; unfold Am.builtin; simp only; rw [rb h5]; exact Does.same hF H h6 h4
 ·
   rename_i k x l
   cases vs with
   | nil => have := hl.1; simp at this
   | cons v vs =>
    obtain ⟨h1, h2⟩ := hl.head; rw [qbL h1]; obtain ⟨sv, h3, h4⟩ := qaK h; obtain ⟨v, h5, h6⟩ := qow h2 h3; unfold Am.builtin; simp only; rw [rb h5]; exact Does.same hF H h6 h4
 · exact h.elim
theorem qiF (hF : FS C s.ts ta) (H : HS tab C s.h a) {cs : List SV} {ca : List AV} (hc : SimL C cs ca) (e n : Nat) (hn : tab.siz.get e = some n) {K : SV -> St -> Prop} {sv : SV} {v : AV} (hv : ∀ C' : Cx, ∀ I, C'.ρ s.h.next = some I -> I.β = a.next -> SimV C' sv v) (hk : K sv (s.new (.cells cs e))) :
  Does tab C s ta a K (.ok (v, a.new (.cells ca e n false .rw))) := by
 let I : BI := ⟨a.next, 0, n, some (.lit 0)⟩
 obtain ⟨h1, h2⟩ := H.new (ao := .cells ca e n false .rw) (o := .cells cs e) I rfl (fun hle => ⟨rfl, ca, n, by rw [AH.get_new, if_pos rfl], hc.le hle, hn⟩); obtain ⟨e1, e2, e3⟩ := s.new_h (.cells cs e); exact ⟨sv, _, v, _, hk, rfl, ⟨C.put s.h.next I, [], by rw [e3]; simp, h1.tr, hv _ I (zz5 _ _ _) rfl, by rw [e1]; exact h2, by rw [e2]; exact hF.le h1, by rw [e1]; exact Keep.new H _ _ h1 (qdL H _)⟩, Grow.new a _⟩
theorem qoP {l : List SV} {m : List AV} (h : SimL C l m) : ∀ n, SimL C (repS n l) (rep n m) := by
 intro n; induction n with
 | zero => exact SimL.nil
 | succ n ih => exact h.append ih
theorem qhg (hF : FS C s.ts ta) (H : HS tab C s.h a) {t : TypeId} {len : Nat} {ps : List (Nat × SV)} {vs : List (Nat × AV)} (hv : vs.map (·.1) = ps.map (·.1)) (hs : SimL C (ps.map (·.2)) (vs.map (·.2))) {K : SV -> St -> Prop} (h : qc7 tab view s t len ps K) :
   Does tab C s ta a K (Am.buildSlice tab a t len vs) := by
 unfold qc7 at h; split at h
 · rename_i e hg; split at h
   · rename_i n z hn hz; obtain ⟨hck, h1⟩ := qaB h; clear h; simp only [Bool.and_eq_true] at hck; obtain ⟨zv, zc, g1, g2, g3⟩ := qdp (C := C) hz; have hzl : (Nat.beq zc.length n) = true := by rw [<- g3.1]; exact hck.2
     unfold Am.buildSlice; rw [rb (show und tab t = _ from ro hg)]; simp only; rw [rb (show siz tab e = _ from ro hn), rb (rc hck.1), rb g1, rb g2, rb (rc hzl)]; by_cases hl0 : len = 0
     · subst hl0; simp only [Nat.beq_refl, cond_true] at h1; obtain ⟨hck2, h2⟩ := qaB h1; clear h1; simp only [Bool.and_eq_true, List.isEmpty_iff, Bool.not_eq_true'] at hck2; obtain ⟨rfl, hn0⟩ := hck2; have hn0 : n ≠ 0 := fun e => by subst e; simp at hn0
       cases vs with
       | cons => simp at hv
       | nil =>
        split at h2
        · rename_i V hV; simp only [List.map_nil, rep, fill]; rw [rb (show (R.ok ([] : List AV)) = .ok [] from rfl), rb (qaC hn _ _ _)]; let I : BI := ⟨a.next, 0, n, some (.lit 0)⟩
          obtain ⟨q1, q2⟩ := H.new (ao := .cells [] e n false .rw) (o := .arr V.X [] V.enc e) I rfl (fun hle => ⟨hn, by simp only [I]; omega, rfl, fun i x hx => by simp at hx, [], false, .rw, by rw [AH.get_new, if_pos rfl], by simp, by simp, .inr ⟨rfl, rfl⟩, fun i x j v hx => by simp at hx⟩); obtain ⟨e1, e2, e3⟩ := s.new_h (.arr V.X [] V.enc e); exact ⟨_, _, _, _, h2, rfl, ⟨C.put s.h.next I, [], by rw [e3]; simp, q1.tr, .own (I := I) (zz5 _ _ _) rfl, by rw [e1]; exact q2, by rw [e2]; exact hF.le q1, by rw [e1]; exact Keep.new H _ _ q1 (qdL H _)⟩, Grow.new a _⟩
        · exact h2.elim
     · rw [qa4 hl0] at h1; simp only [cond_false] at h1; obtain ⟨cs, h2, hk⟩ := qaK h1; obtain ⟨ca, h3, h4⟩ := qf8 (qs := vs.map fun x => (x.1 * n, n, x.2)) (qoP g3 len) (by
        simp only [List.map_map]; have := congrArg (List.map (fun i => (i * n, n))) hv; simpa [List.map_map, Function.comp_def] using this) (by simpa [List.map_map, Function.comp_def] using hs) h2
       rw [rb h3, rb (qaC hn _ _ _)]; exact qiF hF H h4 e n hn (fun C' I hI hb => by rw [<- hb]; exact .sl hI) hk
   · exact h.elim
 · exact h.elim
theorem evR {ts : T AV} {x : Operand} {v : AV} (h : ev ts x = .ok v) {β : Type} (f : AV -> R β) : (ev ts x >>= f) = f v := rb h f
theorem qvP (b : Nat) (C : Cx) : Tr C [.mod b] C := Turns.tr (e := .mod b) ⟨fun _ _ h => h, fun _ _ h => h⟩
theorem qeQ {t : TypeId} {f : Nat} {fd : Field} (h : qlQ tab t f = some fd) : qfs tab t f = .ok fd := by
 unfold qlQ at h; unfold qfs; split at h
 · rename_i fs hg; rw [rb (show und tab t = _ from ro hg)]; exact ro h
 · cases h
theorem quO (hF : FS C s.ts ta) (H : HS tab C s.h a) {o : Oper} {K : SV -> St -> Prop} (h : sop tab view s o K) : Does tab C s ta a K (qaH tab ta a o) := by
 obtain ⟨dst, op, type, pos, after, guard⟩ := o; unfold sop at h; unfold qaH; have same1 : ∀ {x : Operand} {K' : SV -> Prop}, so (sev s.ts x) K' -> ∃ sv v, ev ta x = .ok v /\ SimV C sv v /\ K' sv := by
  intro x K' h; obtain ⟨sv, h1, h2⟩ := qaK h; obtain ⟨v, h3, h4⟩ := qcJ hF h1; exact ⟨sv, v, h3, h4, h2⟩
 cases op <;> simp only at h ⊢
 case move x =>
  obtain ⟨sv, v, h3, h4, h2⟩ := same1 h; rw [evR h3]; exact Does.same hF H h4 h2
 case assign x =>
  obtain ⟨sv, v, h3, h4, h2⟩ := same1 h; rw [evR h3]; exact Does.same hF H h4 h2
 case pick c x y =>
  split at h
  · rename_i p hc; obtain ⟨v, h3, h4⟩ := qcJ hF hc; rw [qcp h4] at h3; rw [evR h3]; split at h
    · rename_i p1 p2 hx hy; obtain ⟨u, g1, g2⟩ := qcJ hF hx; obtain ⟨w, g3, g4⟩ := qcJ hF hy; rw [qcp g2] at g1; rw [qcp g4] at g3
      cases p
      · simp only; rw [evR g3]; exact Does.same hF H (.pure (.bool _)) h
      · simp only; rw [evR g1]; exact Does.same hF H (.pure (.bool _)) h
    · rcases qpv h with ⟨rfl, h⟩ | ⟨rfl, h⟩
      · obtain ⟨sv, v, h3, h4, h2⟩ := same1 h; simp only; rw [evR h3]; exact Does.same hF H h4 h2
      · obtain ⟨sv, v, h3, h4, h2⟩ := same1 h; simp only; rw [evR h3]; exact Does.same hF H h4 h2
  · exact h.elim
 case alloc e =>
  obtain ⟨n, hn, h⟩ := qaK h; obtain ⟨cs, h1, h2⟩ := qaK h; obtain ⟨zv, zc, g1, g2, g3⟩ := qdp (C := C) h1; rw [rb g1, rb g2, rb (qaC hn _ _ _)]; exact qiF hF H g3 e n hn (fun C' I hI hb => by rw [<- hb]; exact .ptr hI) h2
 case box e x =>
  obtain ⟨n, hn, h⟩ := qaK h; obtain ⟨sv, v, h3, h4, h2⟩ := same1 h; obtain ⟨hk, h2⟩ := qaB h2; obtain ⟨l, g1, g2⟩ := qeF h4 hk; rw [evR h3, rb g1, rb (qaC hn _ _ _)]; exact qiF hF H g2 e n hn (fun C' I hI hb => by rw [<- hb]; exact .ptr hI) h2
 case build t ps =>
  obtain ⟨l, h1, h2⟩ := qaK h; obtain ⟨sv, h3, h4⟩ := qaK h2; obtain ⟨vs, g1, g2, g3⟩ := qe7 hF h1; obtain ⟨v, g4, g5⟩ := qi0 g2 g3 h3; rw [rb g1, rb g4]; exact Does.same hF H g5 h4
 case buildSlice t n ps =>
  obtain ⟨l, h1, h2⟩ := qaK h; obtain ⟨vs, g1, g2, g3⟩ := qe7 hF h1; rw [rb g1]; exact qhg hF H g2 g3 h2
 case load t x =>
  obtain ⟨sv, v, h3, h4, h2⟩ := same1 h; obtain ⟨b, off, u, su, rfl, g1, g2, g3⟩ := qiA H h4 h2; rw [evR h3]; simp only; rw [rb g1]; exact Does.same hF H g2 g3
 case store t x y =>
  obtain ⟨sv, v, h3, h4, h2⟩ := same1 h; obtain ⟨sw, w, g3, g4, g2⟩ := same1 h2; obtain ⟨b, off, a', h', rfl, k1, k2, k3, k4, k5⟩ := qo8 H h4 g4 g2; rw [evR h3]; simp only; rw [evR g3, rb k1]; obtain ⟨ts, hh, log⟩ := s; refine ⟨_, _, _, _, k3, rfl, ⟨C, qqz sv, rfl, ?_, .pure (.tup rfl (fun i c v hc => by simp at hc)), k2, hF, k5⟩, k4⟩
  cases sv <;> first | exact qvP _ C | exact Tr.refl C
 case nilCheck x =>
  obtain ⟨sv, v, h3, h4, h2⟩ := same1 h; rw [evR h3]; split at h2
  · cases h4 with
    | pure h => cases h
    | ptr hI => exact Does.same hF H (.ptr hI) h2
  · cases h4 with
    | pure h => cases h
    | eptr hI hc => exact Does.same hF H (.eptr hI hc) h2
  · cases h4 with
    | pure h => cases h with
      | rptr b base ca e sz ext bk u hb hl h1 h2' => exact Does.same hF H (.pure (.rptr b base ca e sz ext bk u hb hl h1 h2')) h2
  · cases h4 with
    | pure h => cases h with
      | fn h1 h2' h3' h4' => exact Does.same hF H (.pure (.fn h1 h2' h3' h4')) h2
    | fn h1 h2' h3' h4' => exact Does.same hF H (.fn h1 h2' h3' h4') h2
  · exact h2.elim
 case binOp op t x y _ =>
  obtain ⟨sv, v, h3, h4, h2⟩ := same1 h; obtain ⟨sw, w, g3, g4, g2⟩ := same1 h2; rw [evR h3, evR g3]; exact Does.val hF H (qoY g2 h4 g4)
 case unOp op _ x =>
  obtain ⟨sv, v, h3, h4, h2⟩ := same1 h; rw [evR h3]; exact Does.val hF H (qrM h2 h4)
 case convert x y z =>
  obtain ⟨sv, v, h3, h4, h2⟩ := same1 h; rw [evR h3]; exact qp3 hF H h4 h2
 case makeFunc fn first captured =>
  split at h
  · obtain ⟨xs, h1, h2⟩ := qaK h; obtain ⟨ys, h3, h4⟩ := qaK h2; obtain ⟨us, g1, g2⟩ := qet hF h1; obtain ⟨vs, g3, g4⟩ := qet hF h3; simp only; rw [rb g1, rb g3]; exact Does.same hF H (.fn g2.1 g4.1 g2.2 g4.2) h4
  · exact h.elim
 case slice t x lo hi mx =>
  cases mx with
  | some m => exact h.elim
  | none =>
    obtain ⟨sv, v, h3, h4, h2⟩ := same1 h; rw [evR h3]; exact qo3 hF H h4 h2
 case fieldAddr st x f =>
  obtain ⟨fd, h1, h2⟩ := qaK h; obtain ⟨hck, h3⟩ := qaB h2; obtain ⟨sv, v, h4, h5, h6⟩ := same1 h3; rw [rb (qeQ h1)]; split at hck
  · rename_i n hn; rw [rb (show siz tab fd.type = _ from ro hn), rb (rc hck), evR h4]; split at h6
    · cases h5 with
      | pure h => cases h
      | ptr hI => exact Does.same hF H (.ptr hI) h6
    · cases h5 with
      | pure h => cases h
      | eptr hI hc => simp only [Nat.add_assoc]; exact Does.same hF H (.eptr hI hc) h6
    · cases h5 with
      | pure h => cases h with
        | rptr b base ca e sz ext bk u hb hl h1 h2' => simp only [Nat.add_assoc]; exact Does.same hF H (.pure (.rptr b base ca e sz ext bk u hb hl h1 h2')) h6
    · exact h6.elim
  · cases hck
 case field t x f =>
  obtain ⟨fd, h1, h2⟩ := qaK h; obtain ⟨sv, v, h4, h5, h6⟩ := same1 h2; rw [rb (qeQ h1), evR h4]; split at h6
  · obtain ⟨us, rfl, g1⟩ := qdy h5; obtain ⟨su, g2, g3⟩ := qaK h6; obtain ⟨u, g4, g5⟩ := qd3 g1 g2; simp only; rw [rb g4]; exact Does.same hF H g5 g3
  · exact h6.elim
 case indexAddr t x ix =>
  obtain ⟨sj, vj, h1, h2, h3⟩ := same1 h; obtain ⟨i, h4, h5⟩ := qgU h3 h2; obtain ⟨sv, v, h6, h7, h8⟩ := same1 h5; rw [evR h1, rb h4]; split at h8
  · rename_i len e b off hg; split at h8
    · rename_i n hn; obtain ⟨g1, g2⟩ := qaB h8; rw [rb (show und tab t = _ from ro hg), evR h6]
      cases h7 with
      | pure h => cases h
      | ptr hI => simp only; rw [rb (rc g1), rb (show siz tab e = _ from ro hn)]; exact Does.same hF H (.ptr hI) g2
    · exact h8.elim
  · rename_i e b off len cap hg; split at h8
    · rename_i n hn; obtain ⟨g1, g2⟩ := qaB h8; rw [rb (show und tab t = _ from ro hg), evR h6]
      cases h7 with
      | pure h => cases h
      | sl hI => simp only; rw [rb (rc g1), rb (show siz tab e = _ from ro hn)]; exact Does.same hF H (.ptr hI) g2
    · exact h8.elim
  · rename_i e X L enc hg; split at h8
    · rename_i n hn; obtain ⟨x, g1, g2⟩ := qaK h8; obtain ⟨g2, g3⟩ := qaB g2; have g2 := Nat.eq_of_beq_eq_true g2; have hi := (List.getElem?_eq_some_iff.1 g1).1; obtain ⟨b, off, cap, cs, e', sz, ext, bk, rfl, hb, hs, hl, hsz, hc, hcell⟩ := ql1 (qbW h7 rfl) (by rintro rfl; simp at hi); obtain ⟨sz0, ext0, hb, hx0⟩ := hb; have hszn : sz = n := by rw [<- hsz i x g1]; exact g2
      subst hszn; rw [rb (show und tab t = _ from ro hg), evR h6]; simp only; rw [rb (rc (by simpa using hi)), rb (show siz tab e = _ from ro hn)]; refine Does.same hF H (.pure ?_) g3; refine .rptr b (off + i * sz) cs e' sz0 ext0 bk (fun j => (cs[off + i * sz + j]?).getD (.tup [])) hb ?_ ?_ ?_
      · rw [g2]; have : i * sz + sz <= L.length * sz := by
         calc i * sz + sz = (i + 1) * sz := by rw [Nat.add_mul, Nat.one_mul]
          _ <= L.length * sz := Nat.mul_le_mul_right _ hi
        omega
      · intro j v hv; obtain ⟨u, q1, _⟩ := hcell i x j v g1 hv; rw [q1]; rfl
      · intro j v hv; obtain ⟨u, q1, q2⟩ := hcell i x j v g1 hv; rw [q1]; exact q2
    · exact h8.elim
  · rename_i e b hg; split at h8
    · rename_i n X L enc e' hn hb; obtain ⟨g1, g2⟩ := qaB h8; simp only [Bool.and_eq_true] at g1; have hee := Nat.eq_of_beq_eq_true g1.1; subst hee; have hi : i < L.length := by simpa using g1.2
      rw [rb (show und tab t = _ from ro hg), evR h6]
      cases h7 with
      | pure h => cases h
      | own0 hI hc =>
        obtain ⟨_, _, _, _, k5⟩ := H.at_ hb hI; rw [hc] at k5; omega
      | own hI hc =>
        rename_i I c; obtain ⟨k1, k2, k3, _, k5⟩ := H.at_ hb hI; have hsz : I.sz = n := by rw [hn] at k1; exact (Option.some.inj k1).symm
        simp only; rw [rb (rc (by rw [k3]; simpa using hi)), rb (show siz tab e = _ from ro hn)]; have hh : SimV C (.eptr b i 0) (.ptr I.β (i * I.sz + 0)) := .eptr hI (by simp [hc]); rw [hsz, Nat.add_zero] at hh; rw [Nat.zero_add]; exact Does.same hF H hh g2
    · exact h8.elim
  · exact h8.elim
 case index t x ix =>
  obtain ⟨sj, vj, h1, h2, h3⟩ := same1 h; obtain ⟨i, h4, h5⟩ := qgU h3 h2; obtain ⟨sv, v, h6, h7, h8⟩ := same1 h5; rw [evR h1, rb h4]; split at h8
  · rename_i len e cs hg; split at h8
    · rename_i n hn; obtain ⟨g1, g2⟩ := qaB h8; obtain ⟨su, g3, g4⟩ := qaK g2; obtain ⟨us, rfl, g5⟩ := qdy h7; obtain ⟨u, g6, g7⟩ := qd3 g5 g3; rw [rb (show und tab t = _ from ro hg), evR h6]; simp only; rw [rb (rc g1), rb (show siz tab e = _ from ro hn), rb g6]; exact Does.same hF H g7 g4
    · exact h8.elim
  · rename_i c hg; obtain ⟨b, g1, g2⟩ := qaK h8; rw [rb (show und tab t = _ from ro hg), evR h6, qbA h7]; simp only; rw [rb (ro g1)]; exact Does.same hF H (.pure (.int _ _)) g2
  · exact h8.elim
 case extract t i =>
  obtain ⟨sv, v, h6, h7, h8⟩ := same1 h; rw [evR h6]; split at h8
  · obtain ⟨us, rfl, g5⟩ := qml h7; obtain ⟨su, g3, g4⟩ := qaK h8; obtain ⟨u, g6, g7⟩ := g5.get g3; simp only; rw [rb (ro g6)]; exact Does.same hF H g7 g4
  · exact h8.elim
 case call c =>
  split at h
  · rename_i b hb; obtain ⟨l, h1, h2⟩ := qaK h; obtain ⟨vs, g1, g2⟩ := qet hF h1; rw [hb]; simp only; rw [rb g1]; exact qkp hF H g2 h2
  · exact h.elim
 all_goals exact h.elim
end
end Go.Sy
namespace Go.Sy
open Go.Am Go.RowKit
universe u v
variable [Inhabited DrP]
def qjX (f : Nat -> Option AO) : Nat -> T AO
 | 0 => .e
 | n + 1 => (qjX f n).set n (f n)
theorem qnf (f : Nat -> Option AO) : ∀ n i, (qjX f n).get i = if i < n then f i else none := by
 intro n; induction n with
 | zero => intro i; simp [qjX, zz66]
 | succ n ih =>
  intro i; simp only [qjX, T.get_set, ih]; by_cases h : i = n
  · subst h; simp
  · rw [if_neg h]; by_cases h2 : i < n
    · rw [if_pos h2, if_pos (by omega)]
    · rw [if_neg h2, if_neg (by omega)]
def ofFn (next : Nat) (f : Nat -> Option AO) : AH := { t := qjX f next, next }
theorem qdi (next : Nat) (f : Nat -> Option AO) (i : Nat) : (ofFn next f).get i = if i < next then f i else none := qnf f next i
section
variable {P : Program} {tab : Tab}
theorem AGo.frame {fr : AFrame} {h h0 : AH} {Θ : AV -> AH -> Prop} (hgo : AGo P { fr, cs := [], h := h0 } Θ) (hs : ∀ i o, h0.get i = some o -> h.get i = some o) (hn : h0.next = h.next) :
   AGo P { fr, cs := [], h } fun v h2 => ∃ h1, Θ v h1 /\ h2.next = h1.next /\ h.next <= h1.next /\ (∀ i o, h1.get i = some o -> i < h1.next) /\ ∀ i o, h2.get i = some o ↔ (h1.get i = some o \/ (h.get i = some o /\ h0.get i = none /\ h1.get i = none)) := by
 classical
 intro D E K base frC csC w hR hB; have hdom : ∀ i o, h.get i = some o -> i < h.next := (hR.all E (Agree.refl _ _)).1.dom; have hd0 : ∀ i o, h0.get i = some o -> i < h0.next := fun i o hi => by rw [hn]; exact hdom i o (hs i o hi)
 have hRc : Rel D E (Am.Rest E h h0 K) { fr, cs := [], h := h0 } base frC csC w := by
   refine ⟨fun E' he => ?_, fun i hi => by simp only; rw [hn]; exact hR.dom i hi, hR.wf⟩; obtain ⟨g1, g2, g3⟩ := hR.all E' he; refine ⟨?_, g2, g3⟩; rw [<- hR.restEq he]; exact g1.part hs hd0
 obtain ⟨v, h1, hΘ, fr1, w', vC, E', D', s1, s2, s3, s4, s5, s6, s7, s8, s9, s10⟩ := hgo D E _ base frC csC w hRc hB.rest; simp only at s9; have hdom1 := (s4 E' (Agree.refl _ _)).1.dom; let h2 : AH := ofFn h1.next fun i => match h1.get i with
   | some o => some o
   | none => if (h0.get i).isNone then h.get i else none
 have hg2 : ∀ i o, h2.get i = some o ↔ (h1.get i = some o \/ (h.get i = some o /\ h0.get i = none /\ h1.get i = none)) := by
   intro i o; simp only [h2, qdi]; constructor
   · intro hh; split at hh
     · split at hh
       · rename_i o' ho'; cases hh; exact .inl ho'
       · rename_i ho'; split at hh
         · rename_i hz; exact .inr ⟨hh, by simpa using hz, ho'⟩
         · cases hh
     · cases hh
   · rintro (hh | ⟨h3, h4, h5⟩)
     · rw [if_pos (hdom1 i o hh), hh]
     · have := hdom i o h3; rw [if_pos (by omega), h5]; simp [h4, h3]
 refine ⟨v, h2, ⟨h1, hΘ, rfl, by omega, hdom1, hg2⟩, fr1, w', vC, E', D', s1, s2, s3, ?_, s5, s6, s7, s8.part, by simp only; rw [<- hn]; exact s9, fun i hi => by simp only; rw [<- hn]; exact s10 i hi⟩; intro E'' he'; obtain ⟨g1, g2⟩ := s4 E'' he'; have hag := s5.trans he' s6; obtain ⟨k1, k2, k3⟩ := hR.all E'' hag; refine ⟨k1.join (by rw [hR.restEq hag]; exact g1) (by rw [hR.restEq hag]; exact s8) (fun i o hi => ((hg2 i o).1 hi).imp id (fun x => ⟨x.1, x.2.1⟩)) (fun i o hi => ?_), g2⟩; rcases (hg2 i o).1 hi with g | ⟨g, _, _⟩
 · exact g1.dom i o g
 · have := hdom i o g; show i < h1.next
   omega
def Post (tab : Tab) (C0 : Cx) (h0 : SH) (a0 : AH) (Q : SV -> St -> Prop) (v : AV) (a' : AH) : Prop :=
 ∃ sv s' C', Q sv s' /\ SimV C' sv v /\ HS tab C' s'.h a' /\ Tr C0 s'.log C' /\ Grow a0 a' /\ Keep C0 h0 a0 s'.log C' s'.h a'
def ConOK (P : Program) (tab : Tab) (g : FuncId) (C : Con) : Prop :=
 ∀ fn body, tab.fns.get g = some fn -> fn.body = some body -> ∀ y, C.pre y -> ∀ (Fz : Nat -> Option AO) (a : AH) (avs : List AV), (∀ i o, Fz i = some o -> a.get i = some o) -> (∀ i o, a.get i = some o -> i < a.next) ->
  (C.args y).length = avs.length -> (∀ (i : Nat) s v, (C.args y)[i]? = some s -> avs[i]? = some v -> SimP Fz s v) ->
  AGo P { fr := AFrame.enter fn g body avs .normal, cs := [], h := a } fun v a' => ∃ Fz' : Nat -> Option AO, (∀ i o, Fz i = some o -> Fz' i = some o) /\ (∀ i o, Fz' i = some o -> a'.get i = some o) /\ SimP Fz' (C.res y) v /\ Grow a a' /\
   (∀ i o, a.get i = some o -> a'.get i = some o) /\ (∀ i o, a'.get i = some o -> i < a'.next) /\ ∀ i o, Fz' i = some o -> Fz i = some o \/ a.next <= i
theorem ConOK.of {g : FuncId} {C : Con} (h : ∀ fn body, tab.fns.get g = some fn -> fn.body = some body -> ∀ y, C.pre y -> ∀ (C0 : Cx) (a : AH) (avs : List AV), C0.ρ = (fun _ => none) -> HS tab C0 ⟨0, []⟩ a ->
     (C.args y).length = avs.length -> (∀ (i : Nat) s v, (C.args y)[i]? = some s -> avs[i]? = some v -> SimP C0.Fz s v) -> AGo P { fr := AFrame.enter fn g body avs .normal, cs := [], h := a } (Post tab C0 ⟨0, []⟩ a fun v s =>
       (∀ (C' : Cx) (a' : AH) (av : AV), HS tab C' s.h a' -> SimV C' v av -> ∃ Fz' : Nat -> Option AO, (∀ i o, C'.Fz i = some o -> Fz' i = some o) /\ (∀ i o, Fz' i = some o -> a'.get i = some o) /\ SimP Fz' (C.res y) av))) : ConOK P tab g C := by
 intro fn body hfn hb y hy Fz a avs hfz hwf hlen hav; let h0 : AH := ofFn a.next Fz
 have hg0 : ∀ i, h0.get i = Fz i := by
   intro i; simp only [h0, qdi]; split
   · rfl
   · rename_i hi
     cases hz : Fz i with
     | none => rfl
     | some o => exact absurd (hwf i o (hfz i o hz)) hi
 let C0 : Cx := ⟨fun _ => none, Fz⟩
 have H0 : HS tab C0 ⟨0, []⟩ h0 := by
   refine ⟨fun p o hp => by simp [SH.get, look] at hp, fun p q o o' I J hp => by simp [SH.get, look] at hp, fun i o hi => by rw [hg0]; exact hi, fun p o I hp => by simp [SH.get, look] at hp, fun p I hp => by simp [C0] at hp, fun i o hi => ?_⟩; rw [hg0] at hi; exact hwf i o (hfz i o hi)
 have := h fn body hfn hb y hy C0 h0 avs rfl H0 hlen hav; refine (this.frame (h := a) (fun i o hi => by rw [hg0] at hi; exact hfz i o hi) rfl).mono ?_; rintro v a2 ⟨a1, ⟨sv, s', C', hQ, hsv, hH, hT, hG, _⟩, hn, hle, hw1, hg2⟩; obtain ⟨Fz', f1, f2, f3⟩ := hQ C' a1 v hH hsv; refine ⟨Fz', fun i o hi => f1 i o (hT.fz i o hi), fun i o hi => (hg2 i o).2 (.inl (f2 i o hi)), f3, ⟨by rw [hn]; exact hle, fun i o hi => ?_⟩, fun i o hi => ?_, fun i o hi => ?_, fun i o hi => ?_⟩
 · rcases (hg2 i o).1 hi with g | ⟨g, _, _⟩
   · rcases hG.old i o g with ⟨o0, g1⟩ | g1
     · rw [hg0] at g1; exact .inl ⟨o0, hfz i o0 g1⟩
     · exact .inr g1
   · exact .inl ⟨o, g⟩
 · cases hz : Fz i with
   | some o' =>
     have := hfz i o' hz; rw [hi] at this; cases this; exact (hg2 i o).2 (.inl (f2 i o (f1 i o (hT.fz i o hz))))
   | none =>
     refine (hg2 i o).2 (.inr ⟨hi, by rw [hg0]; exact hz, ?_⟩)
     cases hz1 : a1.get i with
     | none => rfl
     | some o1 =>
       rcases hG.old i o1 hz1 with ⟨o0, g1⟩ | g1
       · rw [hg0, hz] at g1; cases g1
       · have := hwf i o hi; have e : h0.next = a.next := rfl; omega
 · rcases (hg2 i o).1 hi with g | ⟨g, _, _⟩
   · rw [hn]; exact hw1 i o g
   · have := hwf i o g; omega
 · have h3 := f2 i o hi; rcases hG.old i o h3 with ⟨o0, g1⟩ | g1
   · rw [hg0] at g1; have := f1 i o0 (hT.fz i o0 g1); rw [hi] at this; cases this; exact .inl g1
   · exact .inr g1
end
end Go.Sy
namespace Go.Sy
open Go.Am Go.RowKit
universe u v
variable [Inhabited DrP]
def PL (Fz : Nat -> Option AO) (fs : List SV) (vs : List AV) : Prop := fs.length = vs.length /\ ∀ (i : Nat) f v, fs[i]? = some f -> vs[i]? = some v -> SimP Fz f v
theorem PL.nil {Fz : Nat -> Option AO} : PL Fz [] [] := ⟨rfl, fun i f v h => by simp at h⟩
theorem PL.cons {Fz : Nat -> Option AO} {f : SV} {v : AV} {fs : List SV} {vs : List AV} (h : SimP Fz f v) (t : PL Fz fs vs) : PL Fz (f :: fs) (v :: vs) := by
 refine ⟨by simp [t.1], fun i a b ha hb => ?_⟩
 cases i with
 | zero => simp at ha hb; subst ha; subst hb; exact h
 | succ i => exact t.2 i a b (by simpa using ha) (by simpa using hb)
theorem PL.split {Fz : Nat -> Option AO} {xs fs : List SV} {us vs : List AV} (h : PL Fz (xs ++ fs) (us ++ vs)) (hl : xs.length = us.length) : PL Fz xs us /\ PL Fz fs vs := by
 refine ⟨⟨hl, fun i f v hf hv => h.2 i f v ?_ ?_⟩, ⟨?_, fun i f v hf hv => h.2 (xs.length + i) f v ?_ ?_⟩⟩
 · rw [List.getElem?_append_left (List.getElem?_eq_some_iff.1 hf).1]; exact hf
 · rw [List.getElem?_append_left (List.getElem?_eq_some_iff.1 hv).1]; exact hv
 · have := h.1; simp at this; omega
 · rw [List.getElem?_append_right (by omega)]; simpa using hf
 · rw [List.getElem?_append_right (by omega), hl]; simpa using hv
theorem qrC {X X' : Type} {L : List X} {L' : List X'} {enc : X -> List SV} {enc' : X' -> List SV} {Fz : Nat -> Option AO} {v : AV} (h : SV.lst X' L' enc' = SV.lst X L enc) (hv : SimP Fz (.lst X' L' enc') v) : SimP Fz (.lst X L enc) v := h ▸ hv
section
variable {P : Program} {tab : Tab} {cfg : Cfg} {ta : T AV} {a : AH}
theorem qwu {C : Cx} {s : St} (hF : FS C s.ts ta) (H : HS tab C s.h a) {d : Nat} {o0 : SO} (hd : s.h.get d = some o0) : ∃ C', ((s.ev (.kill d)).del d).log = s.log ++ [.kill d] /\ Tr C [.kill d] C' /\ HS tab C' ((s.ev (.kill d)).del d).h a /\ FS C' ((s.ev (.kill d)).del d).ts ta /\
   Stays C s.h a C' ((s.ev (.kill d)).del d).h /\ Turns C (.kill d) C' /\ ∀ I, C.ρ d = some I -> I.cap.isSome -> C'.Fz I.β = a.get I.β := by
 obtain ⟨ts, ⟨n, os⟩, log⟩ := s; obtain ⟨I, hI, ho⟩ := H.obj d _ hd; obtain ⟨C', hT, H', hfb, hρ⟩ := H.freeze (e := .kill d) hd hI (fun C' h1 h2 _ => qmU C' h1 h2); refine ⟨C', rfl, hT.tr, H', hF.turns hT, ?_, hT, fun J hJ hc => by rw [hI] at hJ; cases hJ; exact hfb hc⟩; intro p o J hp hJ hc; by_cases e : p = d
 · subst e; rw [hI] at hJ; cases hJ; obtain ⟨b, hb⟩ := (H.at_ hp hI).live hc; exact .inr ⟨b, hb, by rw [hfb hc, hb]⟩
 · refine .inl ⟨o.on (.kill d), ?_, by rw [hρ]; exact hJ⟩; simp only [St.ev, St.del, SH.get_set, if_neg e]; rw [qft, hp]; rfl
theorem qkj (htab : cfg.tab = tab) : ∀ (n : Nat) (fs as1 : List SV) (vs : List AV) (s : St) (C : Cx) (K : St -> Prop), argM cfg n fs as1 s K -> SimL C as1 vs -> FS C s.ts ta -> HS tab C s.h a ->
  ∃ C' new s', s'.log = s.log ++ new /\ Tr C new C' /\ HS tab C' s'.h a /\ FS C' s'.ts ta /\ Stays C s.h a C' s'.h /\ K s' /\ PL C'.Fz fs vs := by
 intro n; induction n with
 | zero => intro fs as1 vs s C K h; exact h.elim
 | succ n ih =>
  intro fs as1 vs s C K h hs0 hF H; have lift : ∀ {f : SV} {fs : List SV} {a0 : SV} {as1 : List SV} {v : AV} {vs : List AV}, argM cfg n fs as1 s K -> SimL C as1 vs -> (∀ Fz' : Nat -> Option AO, (∀ i o, C.Fz i = some o -> Fz' i = some o) -> SimP Fz' f v) ->
    ∃ C' new s', s'.log = s.log ++ new /\ Tr C new C' /\ HS tab C' s'.h a /\ FS C' s'.ts ta /\ Stays C s.h a C' s'.h /\ K s' /\ PL C'.Fz (f :: fs) (v :: vs) := by
   intro f fs a0 as1 v vs h hs hv; obtain ⟨C', new, s', g1, g2, g3, g4, g5, g6, g7⟩ := ih fs as1 vs s C K h hs hF H; exact ⟨C', new, s', g1, g2, g3, g4, g5, g6, PL.cons (hv _ g2.fz) g7⟩
  have liftP : ∀ {f : SV} {fs : List SV} {as1 : List SV} {v : AV} {vs : List AV}, argM cfg n fs as1 s K -> SimL C as1 vs -> SimP C.Fz f v ->
    ∃ C' new s', s'.log = s.log ++ new /\ Tr C new C' /\ HS tab C' s'.h a /\ FS C' s'.ts ta /\ Stays C s.h a C' s'.h /\ K s' /\ PL C'.Fz (f :: fs) (v :: vs) := fun h hs hv => lift (a0 := .any) h hs (fun Fz' hf => hv.mono hf)
  cases fs with
  | nil =>
   cases as1 with
   | nil =>
    cases vs with
    | nil => exact ⟨C, [], s, by simp, Tr.refl C, H, hF, Stays.refl _ _ _, h, PL.nil⟩
    | cons => have := hs0.1; simp at this
   | cons => simp only [argM] at h
  | cons f fs =>
   cases as1 with
   | nil => simp only [argM] at h
   | cons x as1 =>
    cases vs with
    | nil => have := hs0.1; simp at this
    | cons v vs =>
     obtain ⟨hx, hs⟩ := hs0.head; clear hs0; simp only [argM] at h; split at h
     · exact liftP h hs (.any _)
     · obtain ⟨rfl, h⟩ := h; rw [qcp hx]; exact liftP h hs (.bool _)
     · obtain ⟨h1, h2, h3⟩ := qaB h; clear h; have h1 := of_decide_eq_true h1; subst h1; rw [qbL hx, h2]; exact liftP h3 hs (.int _ _)
     · obtain ⟨rfl, h⟩ := h; rw [qbA hx]; exact liftP h hs (.str _)
     · exact liftP h hs (qbW hx rfl)
     · obtain ⟨rfl, h⟩ := h; exact liftP h hs (qbW hx rfl)
     · exact liftP h hs (qbW hx rfl)
     · exact liftP h hs (qbW hx rfl)
     · exact liftP h hs (qbW hx rfl)
     · obtain ⟨h1, h⟩ := h; exact liftP h hs (qrC h1 (qbW hx rfl))
     · obtain ⟨rfl, h⟩ := h; rw [qdh hx]; exact liftP h hs (.lst0 rfl (.inl rfl))
     · rename_i X L enc b; split at h
       · rename_i X' L' enc' t hb; obtain ⟨h1, h⟩ := h; obtain ⟨C1, e1, e2, e3, e4, e5, e6⟩ := zz56 hF H hb; have hs1 : SimL C1 (zz34 (.frz b X' L' enc') as1) vs := by
           rw [qe3]; refine ⟨by simp [hs.1], fun i q w hq hw => ?_⟩; rw [List.getElem?_map] at hq; obtain ⟨q0, hq0, rfl⟩ := Option.map_eq_some_iff.1 hq; exact e2.val q0 w (hs.2 i q0 w hq0 hw)
         obtain ⟨C', new, s', g1, g2, g3, g4, g5, g6, g7⟩ := ih fs _ vs _ C1 K h hs1 e4 e3; exact ⟨C', _, s', by rw [g1, e1, List.append_assoc], e2.trans g2, g3, g4, e6.trans g5 g2.fz, g6, PL.cons ((qrC h1 (e5 v hx)).mono g2.fz) g7⟩
       · exact h.elim
     · rename_i X L enc b off m c; split at h
       · rename_i cs e hb; split at h
         · rename_i r hr; rw [htab] at hr; obtain ⟨hck, h⟩ := qaB h; simp only [Bool.and_eq_true, Bool.not_eq_true'] at hck; obtain ⟨⟨⟨hr0, hmc⟩, hle⟩, hpu⟩ := hck; have hr0 : r ≠ 0 := fun e => by subst e; simp at hr0
           have hmc := Nat.le_of_ble_eq_true hmc; have hle := Nat.le_of_ble_eq_true hle; obtain ⟨h1, h⟩ := h; obtain ⟨C1, e1, e2, e3, e4, e5, e6, e7⟩ := qwu hF H hb; have hs1 : SimL C1 (zz34 (.kill b) as1) vs := hs.turns e6; obtain ⟨C', new, s', g1, g2, g3, g4, g5, g6, g7⟩ := ih fs _ vs _ C1 K h hs1 e4 e3; refine ⟨C', _, s', by rw [g1, e1, List.append_assoc], e2.trans g2, g3, g4, e5.trans g5 g2.fz, g6, PL.cons ?_ g7⟩
           cases hx with
           | pure hx => cases hx
           | sl hI =>
            rename_i I; obtain ⟨hcap, ca, sz, k1, k2, k3⟩ := H.at_ hb hI; have hszr : r = sz := by rw [hr] at k3; exact Option.some.inj k3
            subst hszr; have hfz := e7 I hI hcap; rw [k1] at hfz; have hLm : L.length = m := by
              have := congrArg List.length h1; rw [qgx] at this; simpa using this.symm
            have hsub := (k2.drop off).take (m * r); have hT : Told C.Fz X L enc r ((ca.drop off).take (m * r)) := qew hr0 hsub (by simp; omega) hpu hLm (fun i x q hx hq => by
              rw [h1, List.getElem?_map, hx] at hq; simpa using hq)
            subst hLm; refine SimP.mono g2.fz (ql0 I.β off _ ca e _ false .rw _ rfl (.of hfz) (by omega) (by rw [<- k2.1]; exact hle) hT.each hmc ?_); intro i x j w hx hw; obtain ⟨u, q1, q2⟩ := hT.cell i x j w hx hw; refine ⟨u, ?_, q2.mono e2.fz⟩; rw [List.getElem?_take] at q1; split at q1
            · rw [List.getElem?_drop, <- Nat.add_assoc] at q1; exact q1
            · cases q1
         · exact h.elim
       · exact h.elim
     · rename_i xs ys; obtain ⟨h1, h⟩ := qaB h; have h1 := Nat.eq_of_beq_eq_true h1; obtain ⟨us, rfl, hu⟩ := qdy hx; obtain ⟨C', new, s', g1, g2, g3, g4, g5, g6, g7⟩ := ih _ _ (us ++ vs) s C K h (hu.append hs) hF H; obtain ⟨q1, q2⟩ := g7.split (h1.trans hu.1); exact ⟨C', new, s', g1, g2, g3, g4, g5, g6, PL.cons (.agg q1.1 q1.2) q2⟩
     · rename_i f xs us g ys ws; obtain ⟨h1, h'⟩ := qaB h; clear h; have h := h'; clear h'; simp only [Bool.and_eq_true] at h1; obtain ⟨⟨h0, h1⟩, h2⟩ := h1; have h0 := Nat.eq_of_beq_eq_true h0; have h1 := Nat.eq_of_beq_eq_true h1; have h2 := Nat.eq_of_beq_eq_true h2; subst h0; have hfn : ∃ y' w', v = .fn (.func f) y' w' /\ SimL C ys y' /\ SimL C ws w' := by
         cases hx with
         | pure hx => cases hx with
           | fn k1 k2 k3 k4 => exact ⟨_, _, rfl, ⟨k1, fun i q r a b => .pure (k3 i q r a b)⟩, ⟨k2, fun i q r a b => .pure (k4 i q r a b)⟩⟩
         | fn k1 k2 k3 k4 => exact ⟨_, _, rfl, ⟨k1, k3⟩, ⟨k2, k4⟩⟩
       obtain ⟨y', w', rfl, k1, k2⟩ := hfn; obtain ⟨C', new, s', g1, g2, g3, g4, g5, g6, g7⟩ := ih _ _ (y' ++ (w' ++ vs)) s C K h (k1.append (k2.append hs)) hF H; obtain ⟨q1, q2⟩ := g7.split (h1.trans k1.1); obtain ⟨q2, q3⟩ := q2.split (h2.trans k2.1); exact ⟨C', new, s', g1, g2, g3, g4, g5, g6, PL.cons (.fn q1.1 q2.1 q1.2 q2.2) q3⟩
     · exact h.elim
end
end Go.Sy
namespace Go.Sy
open Go.Am Go.RowKit
universe u v
variable [Inhabited DrP]
theorem qbv {α : Type u} : ∀ {l : List α} {K : List α -> Prop}, qb8 l K -> K l := by
 intro l; induction l with
 | nil => intro K h; exact h
 | cons x l ih => intro K h; exact ih (K := fun l' => K (x :: l')) h
theorem qn8 {v : SV} {K : SV -> Prop} (h : qn7 v K) : K v := by
 cases v <;> simp only [qn7] at h <;> first | exact h | exact qbv h | exact qbv (qbv h)
theorem qn6 {o : SO} {K : SO -> Prop} (h : qrz o K) : K o := by
 cases o with
 | cells cs t => exact qbv (K := fun cs => K (.cells cs t)) h
 | arr X L enc t => exact h
theorem qjq {h : SH} {K : SH -> Prop} (hh : qjp h K) : K h := by
 obtain ⟨n, os⟩ := h; simp only [qjp] at hh; split at hh
 · exact qn6 (K := fun o => K ⟨n, (_, some o) :: _⟩) hh
 · exact hh
theorem qeT {α : Type} : ∀ {t : T α} {K : T α -> Prop}, qeS t K -> K t := by
 intro t; induction t with
 | e => intro K h; exact h
 | n v l r ihl ihr =>
  intro K h; simp only [qeS] at h; have h := ihr (ihl h)
  cases v <;> exact h
section
variable {P : Program} {tab : Tab} {cfg : Cfg} {rec : SM -> (SV -> St -> Prop) -> Prop} {C : Cx} {s : St} {ta : T AV} {a : AH}
def qh2 (P : Program) (tab : Tab) (rec : SM -> (SV -> St -> Prop) -> Prop) : Prop :=
 ∀ (f : FuncId) (fn : Func) (body : Code) (args : List SV) (h : SH) (a : AH) (C : Cx) (avs : List AV) (Q : SV -> St -> Prop), tab.fns.get f = some fn -> fn.body = some body ->
  rec ⟨f, Nat.max fn.ntmps args.length, h.next, [.code body], ⟨Fr.of args 0, h, []⟩⟩ Q -> HS tab C h a -> SimL C args avs -> AGo P { fr := AFrame.enter fn f body avs .normal, cs := [], h := a } (Post tab C h a Q)
theorem qpA (htab : cfg.tab = tab) (hrec : qh2 P tab rec) (hcon : ∀ g C, cfg.con g = some C -> ConOK P tab g C) {f : FuncId} {args : List SV} {avs : List AV} {K : SV -> St -> Prop} (h : qr3 cfg rec f args s K) (hF : FS C s.ts ta) (H : HS tab C s.h a) (hs : SimL C args avs) :
   ∃ fn body, tab.fns.get f = some fn /\ fn.body = some body /\ AGo P { fr := AFrame.enter fn f body avs .normal, cs := [], h := a } fun v a' => a.next <= a'.next /\ ∃ sv s', K sv s' /\ Res tab C s ta a sv s' v a' := by
 unfold qr3 at h; rw [htab] at h; split at h
 · rename_i fn hfn; split at h
   · rename_i body hb; refine ⟨fn, body, hfn, hb, ?_⟩; split at h
     · rename_i Cn hCn; obtain ⟨y, h⟩ := h; obtain ⟨C1, new, s1, g1, g2, g3, g4, g5, ⟨hpre, hk⟩, g7⟩ := qkj htab 1000 _ _ _ _ _ _ h hs hF H; refine (hcon f Cn hCn fn body hfn hb y hpre C1.Fz a avs g3.fz g3.wf g7.1 g7.2).mono ?_; rintro v a' ⟨Fz', f1, f2, f3, f4, f5, f6, f7⟩; refine ⟨f4.next, _, s1, hk, ⟨⟨C1.ρ, Fz'⟩, new, g1, ?_, .pure f3, ?_, ?_, ?_⟩, f4⟩
       · have hle : C1.le ⟨C1.ρ, Fz'⟩ := ⟨fun _ _ h => h, f1⟩; have := g2.trans hle.tr; simpa using this
       · have hle : C1.le ⟨C1.ρ, Fz'⟩ := ⟨fun _ _ h => h, f1⟩; refine ⟨fun p o hp => ?_, g3.inj, f2, fun p o I hp hI hc => ?_, g3.lt, f6⟩
         · obtain ⟨I, hI, ho⟩ := g3.obj p o hp; refine ⟨I, hI, ?_⟩; have ho' := ho.le hle; by_cases hc : I.cap.isSome
           · obtain ⟨b, hb'⟩ := ho.live hc; exact ho'.congr ((f5 _ _ hb').trans hb'.symm)
           · cases o with
             | cells cs t => exact absurd ho.1 hc
             | arr X L enc t =>
               obtain ⟨q1, q2, q3, q4, q5⟩ := ho'; refine ⟨q1, q2, q3, q4, ?_⟩
               cases hcap : I.cap with
               | none => rw [hcap] at q5; exact q5
               | some c => rw [hcap] at hc; simp at hc
         · show Fz' I.β = none
           cases hz : Fz' I.β with
           | none => rfl
           | some b =>
             rcases f7 _ _ hz with hz1 | hz1
             · have := g3.dj p o I hp hI hc; rw [hz1] at this; cases this
             · obtain ⟨b', hb'⟩ := (g3.at_ hp hI).live hc; have := g3.wf _ _ hb'; omega
       · have hle : C1.le ⟨C1.ρ, Fz'⟩ := ⟨fun _ _ h => h, f1⟩; exact FS.le hle g4
       · intro p o I hp hI hc _; obtain ⟨b, hb'⟩ := (H.at_ hp hI).live hc; refine ⟨by rw [hb']; exact f5 _ _ hb', ?_⟩; rcases g5 p o I hp hI hc with h1 | ⟨b, _, h2⟩
         · exact .inl h1
         · exact .inr ⟨b, f1 _ _ h2⟩
     · obtain ⟨ts, hh, log⟩ := s; simp only at h; refine (hrec f fn body args hh a C avs _ hfn hb h H hs).mono ?_; rintro v a' ⟨sv, s', C', hk, q1, q2, q3, q4, q5⟩; obtain ⟨ts', h', log'⟩ := s'; exact ⟨q4.next, sv, _, hk, ⟨C', log', rfl, q3, q1, q2, hF.log q3, q5⟩, q4⟩
   · exact h.elim
 · exact h.elim
theorem qlP (htab : cfg.tab = tab) (hrec : qh2 P tab rec) (hcon : ∀ g C, cfg.con g = some C -> ConOK P tab g C) {o : Oper} {K : SV -> St -> Prop} (h : qqa cfg rec s o K) (hF : FS C s.ts ta) (H : HS tab C s.h a) :
   EffR P tab ta a o fun v a' => ∃ sv s', K sv s' /\ Res tab C s ta a sv s' v a' := by
 have hsop : sop cfg.tab cfg.view s o K -> EffR P tab ta a o fun v a' => ∃ sv s', K sv s' /\ Res tab C s ta a sv s' v a' := by
   intro h; rw [htab] at h; obtain ⟨sv, s', v, a', h1, h2, h3⟩ := quO hF H h; exact .inl ⟨v, a', h2, h3.grow.next, sv, s', h1, h3⟩
 unfold qqa at h; split at h
 · rename_i c hc; split at h
   · rename_i f hf; obtain ⟨args, h1, h2⟩ := qaK h; obtain ⟨sf, h3, h4⟩ := qaK h2; obtain ⟨avs, g1, g2⟩ := qet hF h1; obtain ⟨vf, g3, g4⟩ := qcJ hF h3; split at h4
     · rename_i g first captured; have hfn : ∃ us ws, vf = .fn (.func g) us ws /\ SimL C first us /\ SimL C captured ws := by
        cases g4 with
        | pure hx => cases hx with
         | fn k1 k2 k3 k4 => exact ⟨_, _, rfl, ⟨k1, fun i q r a b => .pure (k3 i q r a b)⟩, ⟨k2, fun i q r a b => .pure (k4 i q r a b)⟩⟩
        | fn k1 k2 k3 k4 => exact ⟨_, _, rfl, ⟨k1, k3⟩, ⟨k2, k4⟩⟩
       obtain ⟨us, ws, rfl, k1, k2⟩ := hfn; obtain ⟨fn, body, q1, q2, q3⟩ := qpA htab hrec hcon h4 hF H ((k1.append g2).append k2); exact .inr ⟨c, f, g, us, ws, avs, fn, body, hc, hf, g3, g1, q1, q2, q3⟩
     · exact h4.elim
   · exact hsop h
 · exact hsop h
theorem qgK {ops : Array Oper} {o : Oper} {K : Bool -> St -> Prop} (h : qjv ops o s K) (hF : FS C s.ts ta) : ∃ b s', K b s' /\ wanted ops o ta = .ok b /\ FS C s'.ts ta /\ s'.h = s.h /\ s'.log = s.log := by
 unfold qjv at h; unfold wanted; split at h
 · rename_i hg; rw [hg]; exact ⟨true, s, h, rfl, hF, rfl, rfl⟩
 · rename_i j w hg; rw [hg]; simp only; obtain ⟨ts, hh, log⟩ := s; split at h
   · rename_i d hd; simp only at h; rw [hd]; simp only [Option.bind_some]; have lit : ∀ p : Bool, look ts d = some (.bool p) -> ta.get d = some (.bool p) := by
       intro p hp; have h1 := hF d _ hp; have h2 := qcp h1
       cases hg : ta.get d with
       | none => rw [hg] at h2; simp at h2
       | some v => rw [hg] at h2; simp at h2; rw [h2]
     have putb : ∀ p : Bool, ta.get d = some (.bool p) -> FS C ((d, .bool p) :: ts) ta := by
       intro p hp t q hq; rw [qaY] at hq; split at hq
       · rename_i e
         cases hq; rw [e, hp]; exact .pure (.bool p)
       · exact hF t q hq
     split at h
     · rename_i p hp; have hta := lit p hp; rw [hta]; simp only; rcases qpv h with ⟨rfl, h⟩ | ⟨rfl, h⟩
       · exact ⟨w, _, h, by cases w <;> rfl, putb true hta, rfl, rfl⟩
       · exact ⟨!w, _, h, by cases w <;> rfl, putb false hta, rfl, rfl⟩
     · rename_i cs hp; have h1 := hF d _ hp; obtain ⟨us, h2, _⟩ := qml h1
       cases hg : ta.get d with
       | none => exact ⟨false, _, h, rfl, hF, rfl, rfl⟩
       | some v =>
         rw [hg] at h2; simp at h2; rw [h2]; exact ⟨false, _, h, rfl, hF, rfl, rfl⟩
     · exact h.elim
   · rename_i hd; rw [hd]; exact ⟨false, _, h, rfl, hF, rfl, rfl⟩
def putT (nt : Nat) (ta : T AV) (d : Option Tmp) (v : AV) : T AV := match d with | some d => bif Nat.blt d nt then ta.set d (some v) else ta | none => ta
theorem qfA {nt : Nat} {d : Option Tmp} {sv : SV} {v : AV} {K : St -> Prop} (h : putS nt s d sv K) (hF : FS C s.ts ta) (hv : SimV C sv v) :
  ∃ s', K s' /\ FS C s'.ts (putT nt ta d v) /\ s'.h = s.h /\ s'.log = s.log := by
 obtain ⟨ts, hh, log⟩ := s; unfold putS at h
 cases d with
 | none => exact ⟨_, qjq (K := fun h => K ⟨ts, h, log⟩) h, hF, rfl, rfl⟩
 | some d =>
  simp only [putT] at h ⊢
  cases hb : Nat.blt d nt
  · rw [hb] at h; exact ⟨_, h, hF, rfl, rfl⟩
  · rw [hb] at h; have h := qjq (K := fun h => K ⟨(d, sv) :: ts, h, log⟩) (qn8 (K := fun v => qjp hh fun h => K ⟨(d, v) :: ts, h, log⟩) h); exact ⟨_, h, hF.put hv, rfl, rfl⟩
end
end Go.Sy
namespace Go.Sy
open Go.Am Go.RowKit
universe u v
variable [Inhabited DrP]
mutual
theorem qvE (e : Ev) : ∀ (s : SV) (n : Nat), s.lt n = true -> n <= e.id -> s.on e = s
 | .bool b, n, _, _ => by simp [SV.on]
 | .int k m, n, _, _ => by simp [SV.on]
 | .str s, n, _, _ => by simp [SV.on]
 | .nilp, n, _, _ => by simp [SV.on]
 | .wp _, n, _, _ => by simp [SV.on]
 | .ptr b off, n, h, he => by
  simp only [SV.lt, Nat.blt_eq] at h
  cases e <;> simp only [SV.on, Ev.id] at * <;> first | rfl | (rw [qa4 (by omega)]; rfl)
 | .eptr b i off, n, h, he => by
  simp only [SV.lt, Nat.blt_eq] at h
  cases e <;> simp only [SV.on, Ev.id] at * <;> first | rfl | (rw [qa4 (by omega)]; rfl)
 | .rptr cs off, n, _, _ => by simp [SV.on]
 | .nils, n, _, _ => by simp [SV.on]
 | .sl b off l c, n, h, he => by
  simp only [SV.lt, Nat.blt_eq] at h
  cases e <;> simp only [SV.on, Ev.id] at * <;> first | rfl | (rw [qa4 (by omega)]; rfl)
 | .own b, n, h, he => by
  simp only [SV.lt, Nat.blt_eq] at h
  cases e <;> simp only [SV.on, Ev.id] at * <;> first | rfl | (rw [qa4 (by omega)]; rfl)
 | .lst X L enc, n, _, _ => by simp [SV.on]
 | .nilm, n, _, _ => by simp [SV.on]
 | .map b, n, _, _ => by simp [SV.on]
 | .nilf, n, _, _ => by simp [SV.on]
 | .fn f xs ys, n, h, he => by
  simp only [SV.lt, Bool.and_eq_true] at h; simp only [SV.on, zz84 e xs n h.1 he, zz84 e ys n h.2 he]
 | .agg cs, n, h, he => by
  simp only [SV.lt] at h; simp only [SV.on, zz84 e cs n h he]
 | .tup cs, n, h, he => by
  simp only [SV.lt] at h; simp only [SV.on, zz84 e cs n h he]
 | .any, n, _, _ => by simp [SV.on]
theorem zz84 (e : Ev) : ∀ (l : List SV) (n : Nat), zz68 n l = true -> n <= e.id -> zz34 e l = l
 | [], n, _, _ => by simp [zz34]
 | v :: l, n, h, he => by
  simp only [zz68, Bool.and_eq_true] at h; simp only [zz34, qvE e v n h.1 he, zz84 e l n h.2 he]
end
theorem qma : ∀ (log : List Ev) (s : SV) (n : Nat), s.lt n = true -> (∀ e ∈ log, n <= e.id) -> qcB log s = s := by
 intro log; induction log with
 | nil => intro s n _ _; rfl
 | cons e l ih =>
  intro s n h he; simp only [qcB]; rw [qvE e s n h (he e List.mem_cons_self)]; exact ih s n h (fun e' h' => he e' (List.mem_cons_of_mem _ h'))
theorem ltL_mem {n : Nat} : ∀ {l : List SV}, zz68 n l = true ↔ ∀ s ∈ l, s.lt n = true := by
 intro l; induction l with
 | nil => simp [zz68]
 | cons v l ih => simp [zz68, ih]
theorem qgP {n : Nat} {l : List SV} (h : zz68 n l = true) {i : Nat} {s : SV} (hs : l[i]? = some s) : s.lt n = true := ltL_mem.1 h s (List.mem_of_getElem? hs)
open Classical in
noncomputable def Cx.cut (C : Cx) (n : Nat) : Cx := { C with ρ := fun p => if p < n then C.ρ p else none }
theorem zz54 (C : Cx) {n p : Nat} (h : p < n) : (C.cut n).ρ p = C.ρ p := by simp [Cx.cut, h]
theorem SimV.cut {C : Cx} {n : Nat} {s : SV} {v : AV} (h : SimV C s v) (hl : s.lt n = true) : SimV (C.cut n) s v := by
 induction h with
 | pure h => exact .pure h
 | ptr h => simp only [SV.lt, Nat.blt_eq] at hl; exact .ptr (by rw [zz54 C hl]; exact h)
 | eptr h hc => simp only [SV.lt, Nat.blt_eq] at hl; exact .eptr (by rw [zz54 C hl]; exact h) hc
 | own0 h hc => simp only [SV.lt, Nat.blt_eq] at hl; exact .own0 (by rw [zz54 C hl]; exact h) hc
 | own h hc => simp only [SV.lt, Nat.blt_eq] at hl; exact .own (by rw [zz54 C hl]; exact h) hc
 | sl h => simp only [SV.lt, Nat.blt_eq] at hl; exact .sl (by rw [zz54 C hl]; exact h)
 | fn h1 h2 _ _ ih3 ih4 =>
  simp only [SV.lt, Bool.and_eq_true] at hl; exact .fn h1 h2 (fun i x u hx hu => ih3 i x u hx hu (qgP hl.1 hx)) (fun i x u hx hu => ih4 i x u hx hu (qgP hl.2 hx))
 | agg h1 _ ih => simp only [SV.lt] at hl; exact .agg h1 (fun i x u hx hu => ih i x u hx hu (qgP hl hx))
 | tup h1 _ ih => simp only [SV.lt] at hl; exact .tup h1 (fun i x u hx hu => ih i x u hx hu (qgP hl hx))
theorem SimP.low {Fz : Nat -> Option AO} {n : Nat} {s : SV} {v : AV} (h : SimP Fz s v) : s.lt n = true := by
 induction h with
 | fn h1 h2 _ _ ih3 ih4 =>
  simp only [SV.lt, Bool.and_eq_true]; constructor
  · rw [ltL_mem]; intro s hs; obtain ⟨i, hi⟩ := List.mem_iff_getElem?.1 hs; exact ih3 i s _ hi (List.getElem?_eq_getElem (by rw [<- h1]; exact (List.getElem?_eq_some_iff.1 hi).1))
  · rw [ltL_mem]; intro s hs; obtain ⟨i, hi⟩ := List.mem_iff_getElem?.1 hs; exact ih4 i s _ hi (List.getElem?_eq_getElem (by rw [<- h2]; exact (List.getElem?_eq_some_iff.1 hi).1))
 | agg h1 _ ih =>
  simp only [SV.lt]; rw [ltL_mem]; intro s hs; obtain ⟨i, hi⟩ := List.mem_iff_getElem?.1 hs; exact ih i s _ hi (List.getElem?_eq_getElem (by rw [<- h1]; exact (List.getElem?_eq_some_iff.1 hi).1))
 | tup h1 _ ih =>
  simp only [SV.lt]; rw [ltL_mem]; intro s hs; obtain ⟨i, hi⟩ := List.mem_iff_getElem?.1 hs; exact ih i s _ hi (List.getElem?_eq_getElem (by rw [<- h1]; exact (List.getElem?_eq_some_iff.1 hi).1))
 | _ => rfl
theorem SimV.low {C : Cx} {n : Nat} (hC : ∀ p I, C.ρ p = some I -> p < n) {s : SV} {v : AV} (h : SimV C s v) : s.lt n = true := by
 induction h with
 | pure h => exact h.low
 | ptr h => simpa [SV.lt] using hC _ _ h
 | eptr h hc => simpa [SV.lt] using hC _ _ h
 | own0 h hc => simpa [SV.lt] using hC _ _ h
 | own h hc => simpa [SV.lt] using hC _ _ h
 | sl h => simpa [SV.lt] using hC _ _ h
 | fn h1 h2 _ _ ih3 ih4 =>
  simp only [SV.lt, Bool.and_eq_true]; constructor
  · rw [ltL_mem]; intro s hs; obtain ⟨i, hi⟩ := List.mem_iff_getElem?.1 hs; exact ih3 i s _ hi (List.getElem?_eq_getElem (by rw [<- h1]; exact (List.getElem?_eq_some_iff.1 hi).1))
  · rw [ltL_mem]; intro s hs; obtain ⟨i, hi⟩ := List.mem_iff_getElem?.1 hs; exact ih4 i s _ hi (List.getElem?_eq_getElem (by rw [<- h2]; exact (List.getElem?_eq_some_iff.1 hi).1))
 | agg h1 _ ih =>
  simp only [SV.lt]; rw [ltL_mem]; intro s hs; obtain ⟨i, hi⟩ := List.mem_iff_getElem?.1 hs; exact ih i s _ hi (List.getElem?_eq_getElem (by rw [<- h1]; exact (List.getElem?_eq_some_iff.1 hi).1))
 | tup h1 _ ih =>
  simp only [SV.lt]; rw [ltL_mem]; intro s hs; obtain ⟨i, hi⟩ := List.mem_iff_getElem?.1 hs; exact ih i s _ hi (List.getElem?_eq_getElem (by rw [<- h1]; exact (List.getElem?_eq_some_iff.1 hi).1))
section
variable {P : Program} {tab : Tab} {cfg : Cfg}
structure FrOK (fr : AFrame) (fn : FuncId) (nt : Nat) : Prop where
 fn : fr.fn = fn
 nt : fr.nt = nt
 mode : fr.mode = .run
 defers : fr.defers = []
 kind : fr.kind = .normal
 round : fr.round = none
theorem FrOK.todo {fr : AFrame} {fn : FuncId} {nt : Nat} (h : FrOK fr fn nt) (ts : T AV) (k : List AItem) : FrOK { fr with tmps := ts, todo := k } fn nt := ⟨h.fn, h.nt, h.mode, h.defers, h.kind, h.round⟩
def SI (tab : Tab) (C0 : Cx) (h0 : SH) (a0 : AH) (ta : T AV) (a : AH) (s : St) : Prop := ∃ C, FS C s.ts ta /\ HS tab C s.h a /\ Tr C0 s.log C /\ Grow a0 a /\ Keep C0 h0 a0 s.log C s.h a
inductive TS (HO : (Fr -> SH -> List Ev -> Prop) -> Code -> List AItem -> Prop) : List SItem -> List AItem -> Prop
 | nil : TS HO [] []
 | code {k : List SItem} {k' : List AItem} (c : Code) (h : TS HO k k') : TS HO (.code c :: k) (.code c :: k')
 | inBlock {k : List SItem} {k' : List AItem} (id : Nat) (h : TS HO k k') : TS HO (.inBlock id :: k) (.inBlock id :: k')
 | inLoop {k : List SItem} {k' : List AItem} (b : Code) (h : TS HO k k') : TS HO (.inLoop b :: k) (.inLoop b :: k')
 | inScope {k : List SItem} {k' : List AItem} (b : Code) (h : TS HO k k') : TS HO (.inScope b :: k) (.inScope b :: k')
 | inRegion {k : List SItem} {k' : List AItem} (ops : Array Oper) (l : List Nat) (h : TS HO k k') : TS HO (.inRegion ops l :: k) (.inRegion ops l :: k')
 | head {k : List SItem} {k' : List AItem} (chk : Fr -> SH -> List Ev -> Prop) (b : Code) (h : TS HO k k') (ho : HO chk b k') : TS HO (.head chk :: k) (.inLoop b :: k')
theorem TS.exit {HO : (Fr -> SH -> List Ev -> Prop) -> Code -> List AItem -> Prop} {id : Nat} : ∀ {k : List SItem} {k' : List AItem} {k1 : List SItem}, TS HO k k' -> qhn id k = some k1 -> ∃ k1', Am.exitTo id k' = some k1' /\ TS HO k1 k1' := by
 intro k k' k1 h; induction h with
 | nil => intro h; cases h
 | inBlock j h ih =>
  intro he; simp only [qhn] at he; simp only [Am.exitTo]
  cases hb : Nat.beq j id
  · rw [hb] at he; exact ih he
  · rw [hb] at he; cases he; exact ⟨_, rfl, h⟩
 | code c h ih => intro he; simp only [qhn] at he; simp only [Am.exitTo]; exact ih he
 | inLoop b h ih => intro he; simp only [qhn] at he; simp only [Am.exitTo]; exact ih he
 | inScope b h ih => intro he; simp only [qhn] at he; simp only [Am.exitTo]; exact ih he
 | inRegion ops l h ih => intro he; simp only [qhn] at he; simp only [Am.exitTo]; exact ih he
 | head chk b h ho ih => intro he; simp only [qhn] at he; simp only [Am.exitTo]; exact ih he
theorem qtb (htab : cfg.tab = tab) {C : Cx} {s : St} {ta : T AV} {a : AH} (hF : FS C s.ts ta) (H : HS tab C s.h a) : ∀ {l : List ResultVar} {K : List SV -> Prop}, resS cfg s l K -> ∃ vs svs, Am.results tab a ta l = .ok vs /\ SimL C svs vs /\ K svs := by
 intro l; induction l with
 | nil => intro K h; exact ⟨[], [], rfl, SimL.nil, h⟩
 | cons x l ih =>
  intro K h
  cases x with
  | tmp t =>
   simp only [resS] at h; obtain ⟨v, h1, h2⟩ := qaK h; obtain ⟨vs, svs, g1, g2, g3⟩ := ih h2; refine ⟨_, _, ?_, SimL.cons (hF t v h1) g2, g3⟩; simp only [Am.results]; rw [rb g1]
  | cell b t =>
   simp only [resS] at h; rw [htab] at h; obtain ⟨p, h1, h2⟩ := qaK h; obtain ⟨bb, off, u, sv, h3, h4, h5, h6⟩ := qiA H (hF b p h1) h2; obtain ⟨vs, svs, g1, g2, g3⟩ := ih h6; refine ⟨_, _, ?_, SimL.cons h5 g2, g3⟩; simp only [Am.results]
   cases hg : ta.get b with
   | none => rw [hg] at h3; simp at h3
   | some w =>
    rw [hg] at h3; simp only [Option.getD_some] at h3; rw [h3]; simp only; rw [rb h4, rb g1]
theorem qrJ (pr : PrOK P tab) (htab : cfg.tab = tab) {fn : FuncId} {nt : Nat} {s : St} {Q : SV -> St -> Prop} {C0 : Cx} {h0 : SH} {a0 a : AH} {fr : AFrame} (h : retS cfg fn s Q) (hf : FrOK fr fn nt) (hS : SI tab C0 h0 a0 fr.tmps a s)
   (ht : fr.todo = [] \/ ∃ k, fr.todo = .code .ret :: k) : AGo P { fr, cs := [], h := a } (Post tab C0 h0 a0 Q) := by
 obtain ⟨C, hF, H, hT, hG, hK⟩ := hS; have hstep : Am.step tab sub0 { fr, cs := [], h := a } = .ok (.next { fr := { fr with mode := .returning }, cs := [], h := a }) := by
   rcases ht with ht | ⟨k, ht⟩
   · simp only [Am.step, hf.mode, ht, Am.leave, hf.round]
   · simp only [Am.step, hf.mode, ht, Am.leave, hf.round]
 refine AGo.next pr hstep ?_; unfold retS at h; rw [htab] at h; split at h
 · rename_i func hfn; obtain ⟨vs, svs, g1, g2, g3⟩ := qtb htab hF H h; have hdone : Am.step tab sub0 { fr := { fr with mode := .returning }, cs := [], h := a } = .ok (.done (Am.result vs) a) := by
     simp only [Am.step, Am.unwind, hf.defers, hf.fn, hfn]; rw [rb g1]; simp only [Am.doReturn, hf.kind]
   refine AGo.done pr hdone ⟨_, s, C, g3, ?_, H, hT, hG, hK⟩; unfold Am.result
   cases svs with
   | nil => cases vs with
     | nil => exact .tup g2.1 g2.2
     | cons => have := g2.1; simp at this
   | cons x svs => cases vs with
     | nil => have := g2.1; simp at this
     | cons v vs => cases svs with
      | nil => cases vs with
       | nil => exact g2.head.1
       | cons => have := g2.1; simp at this
      | cons y svs => cases vs with
       | nil => have := g2.1; simp at this
       | cons w vs => exact .tup g2.1 g2.2
 · exact h.elim
end
end Go.Sy
namespace Go.Sy
open Go.Am Go.RowKit
universe u v
variable [Inhabited DrP]
section
variable {P : Program} {tab : Tab} {cfg : Cfg}
theorem Keep.trans {C0 C C' : Cx} {h0 h h' : SH} {a0 a a' : AH} {l m : List Ev} (k : Keep C0 h0 a0 l C h a) (k' : Keep C h a m C' h' a') (hf : ∀ i o, C.Fz i = some o -> C'.Fz i = some o) (H : ∀ i o, C.Fz i = some o -> a.get i = some o) (H' : ∀ i o, C'.Fz i = some o -> a'.get i = some o) :
   Keep C0 h0 a0 (l ++ m) C' h' a' := by
 intro p o I hp hI hc hn; rw [qe0] at hn; obtain ⟨g1, g2⟩ := k p o I hp hI hc (fun e => hn (List.mem_append_left _ e)); rcases g2 with ⟨o', h1, h2⟩ | ⟨b, h1⟩
 · obtain ⟨g3, g4⟩ := k' p o' I h1 h2 hc (fun e => hn (List.mem_append_right _ e)); exact ⟨g3.trans g1, g4⟩
 · exact ⟨by rw [H' _ _ (hf _ _ h1), <- g1, H _ _ h1], .inr ⟨b, hf _ _ h1⟩⟩
theorem SI.res {C0 C : Cx} {h0 : SH} {a0 a a' : AH} {ta : T AV} {s s' : St} {sv : SV} {v : AV} (H : HS tab C s.h a) (hT : Tr C0 s.log C) (hG : Grow a0 a) (hK : Keep C0 h0 a0 s.log C s.h a) (hr : Res tab C s ta a sv s' v a') :
  ∃ C', SimV C' sv v /\ FS C' s'.ts ta /\ HS tab C' s'.h a' /\ Tr C0 s'.log C' /\ Grow a0 a' /\ Keep C0 h0 a0 s'.log C' s'.h a' := by
 obtain ⟨⟨C', new, e1, e2, e3, e4, e5, e6⟩, e7⟩ := hr; exact ⟨C', e3, e5, e4, by rw [e1]; exact hT.trans e2, hG.trans e7, by rw [e1]; exact hK.trans e6 e2.fz H.fz e4.fz⟩
theorem TodoR.mono {ops : Array Oper} {nt : Nat} {G G' : DS -> Prop} (hg : ∀ s, G s -> G' s) : ∀ n s, TodoR P tab ops nt G n s -> TodoR P tab ops nt G' n s := by
 intro n; induction n with
 | zero => intro s h; exact h
 | succ n ih =>
  intro s h; obtain ⟨s1, h1, h2⟩ := h; refine ⟨s1, h1, h2.imp (fun x => ⟨x.1, hg _ x.2⟩) (fun ⟨c, o, q1, q2, q3, q4⟩ => ⟨c, o, q1, q2, q3, ?_⟩)⟩; rcases q4 with ⟨v, h1, k1, k2, k3, k4⟩ | ⟨c', f, g, first, captured, args, fn, body, k1, k2, k3, k4, k5, k6, k7⟩
  · exact .inl ⟨v, h1, k1, k2, k3, ih _ k4⟩
  · exact .inr ⟨c', f, g, first, captured, args, fn, body, k1, k2, k3, k4, k5, k6, k7.mono fun v h1 ⟨a, b, c⟩ => ⟨a, b, ih _ c⟩⟩
def qke (P : Program) (tab : Tab) (cfg : Cfg) (rec : SM -> (SV -> St -> Prop) -> Prop) : Prop :=
 ∀ (ops : Array Oper) (nt n : Nat) (s : St) (K : St -> Prop) (ta : T AV) (a : AH) (C : Cx), qnV cfg rec ops nt n ⟨s, .e, [], []⟩ K -> FS C s.ts ta -> HS tab C s.h a ->
  TodoR P tab ops nt (fun sF => ∃ s' C' new, K s' /\ s'.log = s.log ++ new /\ Tr C new C' /\ HS tab C' s'.h sF.h /\ FS C' s'.ts sF.ts /\ Grow a sF.h /\ Keep C s.h a new C' s'.h sF.h) n { ts := ta, h := a, anc := .e, reads := [], allocs := [] }
theorem qn2 {C : Cx} {s : St} {ta : T AV} {c : Operand} {p : Bool} (hF : FS C s.ts ta) (hc : sev s.ts c = some (.bool p)) : FS C (fixC s c p).ts ta /\ (fixC s c p).h = s.h /\ (fixC s c p).log = s.log := by
 obtain ⟨ts, h, log⟩ := s
 cases c with
 | tmp t =>
  refine ⟨?_, rfl, rfl⟩; intro t' q hq; simp only [fixC] at hq; rw [qaY] at hq; split at hq
  · rename_i e
    cases hq; rw [e]; exact hF t _ hc
  · exact hF t' q hq
 | const v => exact ⟨hF, rfl, rfl⟩
 | func f => exact ⟨hF, rfl, rfl⟩
 | global g => exact ⟨hF, rfl, rfl⟩
theorem qrv {C : Cx} {v e : SV} {av : AV} (h : eqS v e) (hv : SimV C v av) : SimV C e av := by
 unfold eqS at h; split at h
 · rw [<- h]; exact hv
 · obtain ⟨h1, h2⟩ := qaB h; have h1 := of_decide_eq_true h1; rw [<- h1, <- h2]; exact hv
 · rw [<- h]; exact hv
 · obtain ⟨h1, _⟩ := qaB h; simp only [Bool.and_eq_true] at h1; rw [<- Nat.eq_of_beq_eq_true h1.1, <- Nat.eq_of_beq_eq_true h1.2]; exact hv
 · obtain ⟨h1, _⟩ := qaB h; rw [<- Nat.eq_of_beq_eq_true h1]; exact hv
 · exact hv
 · exact hv
 · exact hv
 · exact hv
 · rw [qdh hv]; exact .pure (.lst0 (by rw [h]; rfl) (.inl rfl))
 · exact .pure (.any _)
 · rw [<- h]; exact hv
theorem qsj {C : Cx} : ∀ {l m : List SV} {vs : List AV}, eqSL l m -> SimL C l vs -> SimL C m vs := by
 intro l; induction l with
 | nil => intro m vs h hs; cases m with
  | nil => exact hs
  | cons => exact h.elim
 | cons a l ih => intro m vs h hs; cases m with
  | nil => exact h.elim
  | cons b m =>
   cases vs with
   | nil => have := hs.1; simp at this
   | cons v vs => exact SimL.cons (qrv h.1 hs.head.1) (ih h.2 hs.head.2)
theorem qqe {ts : Fr} {h eh : SH} : ∀ {l : Fr}, fitT ts h eh l -> ∀ {t : Nat} {e : SV}, look l t = some e -> ∃ v, look ts t = some v /\ fitV h eh v e := by
 intro l; induction l with
 | nil => intro _ t e h; cases h
 | cons x l ih =>
  obtain ⟨k, e0⟩ := x; intro hf t e hl; rw [qaY] at hl; split at hl
  · rename_i ek
    cases hl; rw [ek]; exact qaK hf.1
  · exact ih hf.2 hl
theorem qlY {α : Type u} : ∀ {l : List (Nat × α)} {t : Nat} {v : α}, look l t = some v -> (t, v) ∈ l := by
 intro l; induction l with
 | nil => intro t v h; cases h
 | cons x l ih =>
  obtain ⟨k, w⟩ := x; intro t v h; rw [qaY] at h; split at h
  · rename_i e; cases h; rw [e]; exact List.mem_cons_self
  · exact List.mem_cons_of_mem _ (ih h)
theorem qqd {h e : SH} : ∀ {n : Nat}, qso tab h e n -> ∀ p, p < n -> fitO tab h.next p (h.get p) (e.get p) := by
 intro n; induction n with
 | zero => intro _ p hp; omega
 | succ n ih =>
  intro hf p hp; by_cases e : p = n
  · subst e; exact hf.1
  · exact ih hf.2 p (by omega)
theorem SI.frz {C0 : Cx} {h0 : SH} {a0 a : AH} {ta : T AV} {s : St} (hS : SI tab C0 h0 a0 ta a s) (l : List SV) : SI tab C0 h0 a0 ta a (qbq l s) := by
 obtain ⟨C, hF, H, hT, hG, hK⟩ := hS; obtain ⟨C', new, e, t, H', F', st, _⟩ := qjt l s C hF H; exact ⟨C', F', H', by rw [e]; exact hT.trans t, hG, by rw [e]; exact hK.trans (st.keep new) t.fz H.fz H'.fz⟩
open Classical in
theorem qrx (htab : cfg.tab = tab) {C0 C : Cx} {h0 : SH} {a0 a : AH} {ta : T AV} {s : St} {base : Nat} (hC0 : ∀ p I, C0.ρ p = some I -> p < base) {log : List Ev} (hnew : (∀ e ∈ s.log, base <= e.id) /\ ∀ e ∈ log, base <= e.id) (hF : FS C s.ts ta) (H : HS tab C s.h a) (hT : Tr C0 s.log C) (hG : Grow a0 a) (hK : Keep C0 h0 a0 s.log C s.h a)
   (hb0 : ∀ p o, h0.get p = some o -> p < base) {e : Fr × SH} (h1 : fitT s.ts s.h e.2 e.1) (h2 : fitH cfg.tab s.h e.2) (hl : low e.1 e.2 = true) (hbn : base <= e.2.next) (hst : stay base s.h e.2 = true) : SI tab C0 h0 a0 ta a ⟨e.1, e.2, log⟩ := by
 obtain ⟨ts, eh⟩ := e; simp only at h1 h2 hl hbn hst ⊢; unfold low at hl; simp only [Bool.and_eq_true, List.all_eq_true] at hl; obtain ⟨hl1, hl2⟩ := hl; obtain ⟨hnow, hlog⟩ := hnew; rw [htab] at h2; have hfit := qqd h2; have hlow : ∀ p o, eh.get p = some o -> p < eh.next /\ o.lt eh.next = true := by
   intro p o hp; unfold SH.get at hp; split at hp
   · rename_i o' ho'
     cases hp; have := hl2 _ (qlY ho'); simp only [Nat.blt_eq] at this; exact this
   · cases hp
 let szOf (t : TypeId) : Nat := (tab.siz.get t).getD 0
 let Cy : Cx := ⟨fun p => if p < eh.next then (match C.ρ p with
     | some I => some I
     | none => match eh.get p with
       | some (.arr _ _ _ t) => some ⟨0, 0, szOf t, none⟩
       | _ => none) else none, C.Fz⟩
 have hρ : ∀ p I, p < eh.next -> C.ρ p = some I -> Cy.ρ p = some I := by
   intro p I hp hI; simp [Cy, hp, hI]
 have hcut : (C.cut eh.next).le Cy := by
   refine ⟨fun p I hp => ?_, fun _ _ h => h⟩; simp only [Cx.cut] at hp; split at hp
   · rename_i hlt; exact hρ p I hlt hp
   · cases hp
 have hval : ∀ {s : SV} {v : AV}, SimV C s v -> s.lt eh.next = true -> SimV Cy s v := fun h hl => (h.cut hl).le hcut
 have hback : ∀ p I, Cy.ρ p = some I -> I.cap.isSome -> C.ρ p = some I := by
   intro p I hp hc; simp only [Cy] at hp; split at hp
   · split at hp
     · rename_i I' hI'; rw [hI']; exact hp
     · split at hp
       · cases hp; simp at hc
       · cases hp
   · cases hp
 have hlive : ∀ p o I, eh.get p = some o -> C.ρ p = some I -> ∃ o', s.h.get p = some o' := by
   intro p o I hp hI; obtain ⟨hlt, _⟩ := hlow p o hp; have hf := hfit p hlt; rw [hp] at hf
   cases hs : s.h.get p with
   | some o' => exact ⟨o', rfl⟩
   | none =>
     rw [hs] at hf
     cases o with
     | cells cs t => exact hf.elim
     | arr X L enc t =>
       have := Nat.le_of_ble_eq_true (qaB hf).1; have := H.lt p I hI; omega
 refine ⟨Cy, ?_, ⟨?_, ?_, H.fz, ?_, ?_, H.wf⟩, ⟨?_, hT.fz⟩, hG, ?_⟩
 ·
   intro t ev hev; obtain ⟨v, hv, hfv⟩ := qqe h1 hev; have hlt := hl1 _ (qlY hev); have hsv := hF t v hv; simp only at hlt; unfold fitV at hfv; split at hfv
   · rename_i b; split at hfv
     · rename_i X L enc t' hb1 hb2; rw [qdh hsv]; obtain ⟨hbl, _⟩ := hlow _ _ hb2; have hf := hfit _ hbl; rw [hb1, hb2] at hf; have hge := Nat.le_of_ble_eq_true (qaB hf).1; have hnone : C.ρ b = none := by
         cases hz : C.ρ b with
         | none => rfl
         | some I => have := H.lt _ _ hz; omega
       exact .own0 (I := ⟨0, 0, szOf t', none⟩) (by simp [Cy, hbl, hnone, hb2]) rfl
     · exact hfv.elim
   · exact hval (qrv hfv hsv) hlt
 ·
   intro p o hp; obtain ⟨hlt, hol⟩ := hlow p o hp; have hf := hfit p hlt; rw [hp] at hf
   cases hs : s.h.get p with
   | none =>
     rw [hs] at hf
     cases o with
     | cells cs t => exact hf.elim
     | arr X L enc t =>
       obtain ⟨hge, hL, hz⟩ := qaB hf; obtain ⟨n, hn, hz⟩ := qaK hz; obtain ⟨hn0, hz⟩ := qaB hz; have hge := Nat.le_of_ble_eq_true hge; have hnone : C.ρ p = none := by
         cases hz : C.ρ p with
         | none => rfl
         | some I => have := H.lt _ _ hz; omega
       have hsz : szOf t = n := by simp [szOf, hn]
       refine ⟨⟨0, 0, szOf t, none⟩, by simp [Cy, hlt, hnone, hp], ?_⟩; subst hL; have hn0 : n ≠ 0 := fun e => by subst e; simp at hn0
       exact ⟨by simp only [hsz]; exact hn, by simp only [hsz]; omega, rfl, fun i x hx => by simp at hx, rfl⟩
   | some o' =>
     rw [hs] at hf; obtain ⟨I, hI, ho⟩ := H.obj p o' hs; refine ⟨I, hρ p I hlt hI, ?_⟩
     cases o with
     | cells cs t =>
       cases o' with
       | arr X L enc t' => exact hf.elim
       | cells cs' t' =>
         obtain ⟨htt, hcs⟩ := qaB hf; have htt := Nat.eq_of_beq_eq_true htt; subst htt; obtain ⟨q1, ca, sz, q2, q3, q4⟩ := ho; have q5 := qsj hcs q3; exact ⟨q1, ca, sz, q2, ⟨q5.1, fun i x v hx hv => hval (q5.2 i x v hx hv) (qgP hol hx)⟩, q4⟩
     | arr X L enc t =>
       cases o' with
       | cells cs' t' => exact hf.elim
       | arr X' L' enc' t' =>
         obtain ⟨htt, hLL⟩ := qaB hf; have htt := Nat.eq_of_beq_eq_true htt; subst htt
         cases hLL; exact ho.congr (a' := a) rfl |> fun ho => by
           obtain ⟨g1, g2, g3, g4, g5⟩ := ho; exact ⟨g1, g2, g3, g4, g5⟩
 · intro p q o o' I J hp hq hI hJ hc hc' e; have hI' := hback p I hI hc; have hJ' := hback q J hJ hc'; obtain ⟨o1, g1⟩ := hlive p o I hp hI'; obtain ⟨o2, g2⟩ := hlive q o' J hq hJ'; exact H.inj p q o1 o2 I J g1 g2 hI' hJ' hc hc' e
 · intro p o I hp hI hc; have hI' := hback p I hI hc; obtain ⟨o1, g1⟩ := hlive p o I hp hI'; exact H.dj p o1 I g1 hI' hc
 · intro p I hI; simp only [Cy] at hI; split at hI
   · assumption
   · cases hI
 · intro sv v hsv; have hlt := hsv.low hC0; have h3 := hT.val _ _ hsv; rw [qma _ _ base hlt hnow] at h3; show SimV Cy (qcB log sv) v
   rw [qma _ _ base hlt hlog]; exact hval h3 (hsv.low (fun p I hI => Nat.lt_of_lt_of_le (hC0 p I hI) hbn))
 · intro p o I hp hI hc hn; have hpb := hb0 p o hp; have hn' : p ∉ qcy s.log := by
     have : ∀ (l : List Ev), (∀ e ∈ l, base <= e.id) -> p ∉ qcy l := by
       intro l; induction l with
       | nil => intro _ h; cases h
       | cons e l ih =>
         intro he hm; have h1 := he e List.mem_cons_self
         cases e <;> simp only [qcy, Ev.id] at hm h1
         · rcases List.mem_cons.1 hm with rfl | hm
           · omega
           · exact ih (fun e' h' => he e' (List.mem_cons_of_mem _ h')) hm
         · rcases List.mem_cons.1 hm with rfl | hm
           · omega
           · exact ih (fun e' h' => he e' (List.mem_cons_of_mem _ h')) hm
         · exact ih (fun e' h' => he e' (List.mem_cons_of_mem _ h')) hm
     exact this _ hnow
   obtain ⟨g1, g2⟩ := hK p o I hp hI hc hn'; refine ⟨g1, ?_⟩; rcases g2 with ⟨o', q1, q2⟩ | g2
   · have := List.all_eq_true.1 hst p (List.mem_range.2 hpb); rw [q1] at this
     cases hz : eh.get p with
     | none => rw [hz] at this; cases this
     | some o2 => exact .inl ⟨o2, rfl, hρ p I (by omega) q2⟩
   · exact .inr g2
theorem qpf (pr : PrOK P tab) (htab : cfg.tab = tab) (hcon : ∀ g C, cfg.con g = some C -> ConOK P tab g C) (hdraw : ∀ rec, qh2 P tab rec -> qke P tab cfg rec) : ∀ (n : Nat), qh2 P tab (wp cfg n) /\ ∀ (fn : FuncId) (nt base : Nat) (todo : List SItem) (s : St) (Q : SV -> St -> Prop) (C0 : Cx) (h0 : SH) (a0 : AH), (∀ p I, C0.ρ p = some I -> p < base) -> (∀ p o, h0.get p = some o -> p < base) -> ∀ (fr : AFrame) (a : AH),
  wp cfg n ⟨fn, nt, base, todo, s⟩ Q -> FrOK fr fn nt ->
  TS (fun chk b k' => ∀ (ts : Fr) (h : SH) (log : List Ev) (fr : AFrame) (a : AH), chk ts h log -> fr.todo = .inLoop b :: k' -> FrOK fr fn nt -> SI tab C0 h0 a0 fr.tmps a ⟨ts, h, log⟩ -> AGo P { fr, cs := [], h := a } (Post tab C0 h0 a0 Q)) todo fr.todo ->
  SI tab C0 h0 a0 fr.tmps a s -> AGo P { fr, cs := [], h := a } (Post tab C0 h0 a0 Q) := by
 intro n; induction n with
 | zero => exact ⟨fun f fn body args h a C avs Q _ _ h' => h'.elim, fun fn nt base todo s Q C0 h0 a0 _ _ fr a h => h.elim⟩
 | succ n ihn =>
  obtain ⟨ihrec, ih⟩ := ihn; have walk : ∀ (fn : FuncId) (nt base : Nat) (todo : List SItem) (s : St) (Q : SV -> St -> Prop) (C0 : Cx) (h0 : SH) (a0 : AH), (∀ p I, C0.ρ p = some I -> p < base) -> (∀ p o, h0.get p = some o -> p < base) -> ∀ (fr : AFrame) (a : AH),
     wp cfg (n + 1) ⟨fn, nt, base, todo, s⟩ Q -> FrOK fr fn nt ->
     TS (fun chk b k' => ∀ (ts : Fr) (h : SH) (log : List Ev) (fr : AFrame) (a : AH), chk ts h log -> fr.todo = .inLoop b :: k' -> FrOK fr fn nt -> SI tab C0 h0 a0 fr.tmps a ⟨ts, h, log⟩ -> AGo P { fr, cs := [], h := a } (Post tab C0 h0 a0 Q)) todo fr.todo ->
     SI tab C0 h0 a0 fr.tmps a s -> AGo P { fr, cs := [], h := a } (Post tab C0 h0 a0 Q) := by
    intro fn nt base todo s Q C0 h0 a0 hC0 hh0 fr a h hf hts hS; have ctl : ∀ (k : List SItem) (k' : List AItem) (s' : St), wp cfg n ⟨fn, nt, base, k, s'⟩ Q -> (Am.step tab sub0 { fr, cs := [], h := a } = .ok (.next { fr := { fr with todo := k' }, cs := [], h := a })) ->
      TS (fun chk b k' => ∀ (ts : Fr) (h : SH) (log : List Ev) (fr : AFrame) (a : AH), chk ts h log -> fr.todo = .inLoop b :: k' -> FrOK fr fn nt -> SI tab C0 h0 a0 fr.tmps a ⟨ts, h, log⟩ -> AGo P { fr, cs := [], h := a } (Post tab C0 h0 a0 Q)) k k' ->
      SI tab C0 h0 a0 fr.tmps a s' -> AGo P { fr, cs := [], h := a } (Post tab C0 h0 a0 Q) := fun k k' s' hw hstep hk hS' => AGo.next pr hstep (ih fn nt base k s' Q C0 h0 a0 hC0 hh0 _ a hw (hf.todo fr.tmps k') hk hS')
    generalize htodo : fr.todo = todo' at hts
    simp only [wp] at h
    cases hts with
    | nil => exact qrJ pr htab h hf hS (.inl htodo)
    | inBlock id hk => exact ctl _ _ s h (by simp only [Am.step, hf.mode, htodo]) hk hS
    | inScope b hk => exact ctl _ _ s h (by simp only [Am.step, hf.mode, htodo]) hk hS
    | inLoop b hk => exact ctl _ _ s h (by simp only [Am.step, hf.mode, htodo]) (.code b (.inLoop b hk)) hS
    | head chk b hk ho => exact ho s.ts s.h s.log fr a h htodo hf hS
    | @inRegion k k' ops l hk =>
     cases l with
     | nil => exact ctl _ _ s h (by simp only [Am.step, hf.mode, htodo]) hk hS
     | cons i rest =>
      simp only at h; split at h
      · rename_i o ho; obtain ⟨C, hF, H, hT, hG, hK⟩ := hS; obtain ⟨b, s1, h1, hw, hF1, eh, el⟩ := qgK h hF; have hfin : ∀ v, fr.finish v = .ok { fr with tmps := fr.put o.dst v, todo := .inRegion ops rest :: k' } := by
          intro v; unfold AFrame.finish; rw [htodo]; simp only [ho, Option.bind_some]
        have hput : ∀ (v : AV), fr.put o.dst v = putT nt fr.tmps o.dst v := by
          intro v; unfold AFrame.put putT; rw [hf.nt]
          cases o.dst <;> rfl
        have H1 : HS tab C s1.h a := by rw [eh]; exact H
        have hT1 : Tr C0 s1.log C := by rw [el]; exact hT
        have hK1 : Keep C0 h0 a0 s1.log C s1.h a := by rw [el, eh]; exact hK
        cases b with
        | false =>
          simp only [cond_false] at h1; obtain ⟨s2, k1, k2, k3, k4⟩ := qfA (v := .tup []) h1 hF1 (.pure (.tup rfl (fun i c v hc => by simp at hc))); refine AGo.next pr (m' := { fr := { fr with tmps := fr.put o.dst (.tup []), todo := .inRegion ops rest :: k' }, cs := [], h := a }) (by
           simp only [Am.step, hf.mode, htodo, ho]; rw [rb hw]; simp only [Bool.false_eq_true, if_false]; rw [rb (hfin _), hf.mode]) (ih fn nt base _ s2 Q C0 h0 a0 hC0 hh0 _ a k1 (hf.todo _ _) (.inRegion ops rest hk) ⟨C, ?_, by rw [k3]; exact H1, by rw [k4]; exact hT1, hG, by rw [k3, k4]; exact hK1⟩)
          simp only; rw [hput]; exact k2
        | true =>
          simp only [cond_true] at h1; refine qwX pr hf.mode htodo ho hw (qlP htab ihrec hcon h1 hF1 H1) (fun v => ⟨_, hfin v⟩) ?_; rintro v a1 ⟨sv, s2, k1, k2⟩ fr' hfr; rw [hfin v] at hfr
          cases hfr; obtain ⟨C', q1, q2, q3, q4, q5, q6⟩ := SI.res H1 hT1 hG hK1 k2; obtain ⟨s3, r1, r2, r3, r4⟩ := qfA k1 q2 q1; refine ih fn nt base _ s3 Q C0 h0 a0 hC0 hh0 _ a1 r1 (hf.todo _ _) (.inRegion ops rest hk) ⟨C', ?_, by rw [r3]; exact q3, by rw [r4]; exact q4, q5, by rw [r3, r4]; exact q6⟩; simp only; rw [hput]; exact r2
      · exact h.elim
    | @code k k' c hk =>
     cases c with
     | skip => exact ctl _ _ s h (by simp only [Am.step, hf.mode, htodo]) hk hS
     | label l => exact ctl _ _ s h (by simp only [Am.step, hf.mode, htodo]) hk hS
     | ret => exact qrJ pr htab h hf hS (.inr ⟨_, htodo⟩)
     | seq x y => exact ctl _ _ s h (by simp only [Am.step, hf.mode, htodo]) (.code x (.code y hk)) hS
     | block id b => exact ctl _ _ s h (by simp only [Am.step, hf.mode, htodo]) (.code b (.inBlock id hk)) hS
     | scope b => exact ctl _ _ s h (by simp only [Am.step, hf.mode, htodo]) (.code b (.inScope b hk)) hS
     | exit id =>
      simp only at h; split at h
      · rename_i k1 hk1; obtain ⟨k1', g1, g2⟩ := hk.exit hk1; exact ctl _ _ s h (by simp only [Am.step, hf.mode, htodo, g1]) g2 hS
      · exact h.elim
     | cond x y z =>
      simp only at h; split at h
      · rename_i p hp; obtain ⟨C, hF, H, hT, hG, hK⟩ := hS; obtain ⟨v, g1, g2⟩ := qcJ hF hp; rw [qcp g2] at g1; rcases qpv h with ⟨rfl, h⟩ | ⟨rfl, h⟩
        · obtain ⟨f1, f2, f3⟩ := qn2 hF hp; exact ctl _ _ _ h (by simp only [Am.step, hf.mode, htodo]; rw [rb g1]) (.code y hk) ⟨C, f1, by rw [f2]; exact H, by rw [f3]; exact hT, hG, by rw [f2, f3]; exact hK⟩
        · obtain ⟨f1, f2, f3⟩ := qn2 hF hp; exact ctl _ _ _ h (by simp only [Am.step, hf.mode, htodo]; rw [rb g1]) (.code z hk) ⟨C, f1, by rw [f2]; exact H, by rw [f3]; exact hT, hG, by rw [f2, f3]; exact hK⟩
      · exact h.elim
     | region id ops d =>
      cases d with
      | false => exact ctl _ _ s h (by simp only [Am.step, hf.mode, htodo]) (.inRegion ops _ hk) hS
      | true =>
        simp only at h; obtain ⟨hlt, h⟩ := qaB h; obtain ⟨C, hF, H, hT, hG, hK⟩ := hS; rw [<- hf.nt] at h; have hd := hdraw (wp cfg n) ihrec ops fr.nt _ s _ fr.tmps a C h hF H; refine qxh pr hf.mode htodo hlt (n := ops.size + 1) (TodoR.mono ?_ _ _ hd); rintro sF ⟨s', C', new, k1, k2, k3, k4, k5, k6, k7⟩; rw [hf.nt] at k1; exact ih fn nt base _ s' Q C0 h0 a0 hC0 hh0 _ sF.h k1 (hf.todo _ _) hk ⟨C', k5, k4, by rw [k2]; exact hT.trans k3, hG.trans k6, by rw [k2]; exact hK.trans k7 k3.fz H.fz k4.fz⟩
     | loop b =>
      simp only at h; split at h
      · exact ctl _ _ s h (by simp only [Am.step, hf.mode, htodo]) (.code b (.inLoop b hk)) hS
      · rename_i A0 hA0; obtain ⟨A, h⟩ := qqr h; have hS := hS.frz (frzV s.ts A.frz); have h : (∃ x : A.α, A.ok x /\ fitT (frzS A s).ts (frzS A s).h (A.at (frzS A s) x).2 (A.at (frzS A s) x).1 /\ fitH cfg.tab (frzS A s).h (A.at (frzS A s) x).2 /\ ck (stay base (frzS A s).h (A.at (frzS A s) x).2) True) /\
           ∀ x : A.α, A.ok x -> ck ((frzS A s).log.all (fun e => Nat.ble base e.id) && (low (A.at (frzS A s) x).1 (A.at (frzS A s) x).2 && Nat.ble base (A.at (frzS A s) x).2.next)) (wp cfg n ⟨fn, nt, base, .code b :: .head (qsr cfg A (frzS A s) base x) :: k, ⟨(A.at (frzS A s) x).1, (A.at (frzS A s) x).2, (frzS A s).log⟩⟩ Q) := h
        have hS : SI tab C0 h0 a0 fr.tmps a (frzS A s) := hS; generalize frzS A s = s at h hS
        obtain ⟨⟨x0, hx0, hf1, hf2, hf3⟩, hall⟩ := h; have hrest : ∀ x, A.ok x -> (∀ e ∈ s.log, base <= e.id) /\ low (A.at s x).1 (A.at s x).2 = true /\ base <= (A.at s x).2.next /\ wp cfg n ⟨fn, nt, base, .code b :: .head (qsr cfg A s base x) :: k, ⟨(A.at s x).1, (A.at s x).2, s.log⟩⟩ Q := by
          intro x hx; obtain ⟨g1, g2⟩ := qaB (hall x hx); simp only [Bool.and_eq_true, List.all_eq_true] at g1; exact ⟨fun e he => Nat.le_of_ble_eq_true (g1.1 e he), g1.2.1, Nat.le_of_ble_eq_true g1.2.2, g2⟩
        have loop : ∀ (m : Nat) (x : A.α), A.μ x = m -> A.ok x -> ∀ (fr2 : AFrame) (a2 : AH), fr2.todo = .code b :: .inLoop b :: k' -> FrOK fr2 fn nt -> SI tab C0 h0 a0 fr2.tmps a2 ⟨(A.at s x).1, (A.at s x).2, s.log⟩ -> AGo P { fr := fr2, cs := [], h := a2 } (Post tab C0 h0 a0 Q) := by
          intro m; induction m using Nat.strongRecOn with
          | _ m ihm =>
           intro x hm hx fr2 a2 ht2 hf2 hS2; obtain ⟨_, _, _, hw⟩ := hrest x hx; refine ih fn nt base _ _ Q C0 h0 a0 hC0 hh0 fr2 a2 hw hf2 ?_ hS2; rw [ht2]; refine .code b (.head _ b hk ?_); intro ts hh log fr3 a3 hchk ht3 hf3 hS3; have hS3 := hS3.frz (frzV ts A.frz); have hchk : ck ((frzS A ⟨ts, hh, log⟩).log.all fun e => Nat.ble base e.id) (∃ y : A.α, A.ok y /\ A.μ y < A.μ x /\ fitT (frzS A ⟨ts, hh, log⟩).ts (frzS A ⟨ts, hh, log⟩).h (A.at s y).2 (A.at s y).1 /\ fitH cfg.tab (frzS A ⟨ts, hh, log⟩).h (A.at s y).2 /\ ck (stay base (frzS A ⟨ts, hh, log⟩).h (A.at s y).2) True) := hchk; have hS3 : SI tab C0 h0 a0 fr3.tmps a3 (frzS A ⟨ts, hh, log⟩) := hS3; generalize frzS A ⟨ts, hh, log⟩ = s3 at hchk hS3
           obtain ⟨hcov, y, hy, hμ, q1, q2, q3⟩ := qaB hchk; obtain ⟨l0, l1, l2, _⟩ := hrest y hy; obtain ⟨C, hF, H, hT, hG, hK⟩ := hS3; have hpre : (∀ e ∈ s3.log, base <= e.id) /\ ∀ e ∈ s.log, base <= e.id := ⟨fun e he => Nat.le_of_ble_eq_true (List.all_eq_true.1 hcov e he), l0⟩; have hSy := qrx htab hC0 (s := s3) hpre hF H hT hG hK hh0 q1 q2 l1 l2 (qaB q3).1; refine AGo.next pr (m' := { fr := { fr3 with todo := .code b :: .inLoop b :: k' }, cs := [], h := a3 }) (by simp only [Am.step, hf3.mode, ht3]) ?_; exact ihm (A.μ y) (by omega) y rfl hy _ a3 rfl (hf3.todo fr3.tmps _) hSy
        obtain ⟨l0, l1, l2, _⟩ := hrest x0 hx0; obtain ⟨C, hF, H, hT, hG, hK⟩ := hS; have hS0 := qrx htab hC0 (log := s.log) ⟨l0, l0⟩ hF H hT hG hK hh0 hf1 hf2 l1 l2 (qaB hf3).1; refine AGo.next pr (m' := { fr := { fr with todo := .code b :: .inLoop b :: k' }, cs := [], h := a }) (by simp only [Am.step, hf.mode, htodo]) ?_; exact loop _ x0 rfl hx0 _ a rfl (hf.todo fr.tmps _) hS0
     | _ => exact h.elim
  refine ⟨?_, walk⟩; intro f fn body args h a C avs Q hfn hb hw H hs; refine walk f _ h.next _ _ Q C h a H.lt (fun p o hp => ?_) _ a hw ⟨rfl, ?_, rfl, rfl, rfl, rfl⟩ (.code body .nil) ⟨C, ?_, H, Tr.refl C, Grow.refl a, Keep.same _ _ _ _⟩
  · obtain ⟨I, hI, _⟩ := H.obj p o hp; exact H.lt p I hI
  · simp only [AFrame.enter]; rw [hs.1]
  · have hlook : ∀ (l : List SV) (k t : Nat), look (Fr.of l k) t = if k <= t then l[t - k]? else none := by
     intro l; induction l with
     | nil => intro k t; simp [Fr.of, look]
     | cons v l ih =>
      intro k t; simp only [Fr.of, qaY, ih]; by_cases h1 : t = k
      · subst h1; simp
      · rw [if_neg h1]; by_cases h2 : k <= t
        · rw [if_pos (by omega), if_pos h2, show t - k = (t - (k + 1)) + 1 from by omega, List.getElem?_cons_succ]
        · rw [if_neg (by omega), if_neg h2]
    intro t q hq; rw [hlook] at hq; simp only [Nat.zero_le, if_true, Nat.sub_zero] at hq; obtain ⟨v, h1, h2⟩ := hs.get hq; simp only [AFrame.enter]; rw [zz18, h1]; exact h2
theorem qrh (pr : PrOK P tab) (htab : cfg.tab = tab) (hcon : ∀ g C, cfg.con g = some C -> ConOK P tab g C) (hdraw : ∀ rec, qh2 P tab rec -> qke P tab cfg rec) : ∀ n, qh2 P tab (wp cfg n) := fun n => (qpf pr htab hcon hdraw n).1
end
end Go.Sy
namespace Go.Sy
open Go.Am Go.RowKit
universe u v
variable [Inhabited DrP]
section
variable {tab : Tab} {ta : T AV}
def Part (h0 h : AH) : Prop := ∀ i o, h0.get i = some o -> h.get i = some o
theorem qdA {h0 h : AH} (hs : Part h0 h) {b : Nat} {r} (hp : qbk h0 b = .ok r) : qbk h b = .ok r := by
 unfold qbk at hp ⊢; split at hp
 · rename_i hg; rw [hs _ _ hg]; exact hp
 · cases hp
theorem qjC {h0 h : AH} (hs : Part h0 h) {t b off : Nat} {r} (hp : Am.loadVar tab h0 t b off = .ok r) : Am.loadVar tab h t b off = .ok r := by
 unfold Am.loadVar readN at hp ⊢; obtain ⟨p, h1, hp⟩ := zz0.1 hp; rw [rb h1]; split at hp
 · rename_i hc; simp only [hc, if_true]; obtain ⟨n, h2, hp⟩ := zz0.1 hp; obtain ⟨cs, h3, hp⟩ := zz0.1 hp; obtain ⟨c, h4, h3⟩ := zz0.1 h3; rw [rb h2, rb (show (qbk h b >>= _) = _ from by rw [rb (qdA hs h4)]; exact h3)]; exact hp
 · rename_i hc; simp only [hc, if_false]; obtain ⟨c, h4, hp⟩ := zz0.1 hp; rw [rb (qdA hs h4)]; exact hp
theorem qks {h0 h : AH} (hs : Part h0 h) {b : Nat} {c : Cap} {r} (hp : capLow h0 b c = .ok r) : capLow h b c = .ok r := by
 cases c with
 | lit n => exact hp
 | tail k =>
  simp only [capLow] at hp ⊢; obtain ⟨x, h1, hp⟩ := zz0.1 hp; rw [rb (qdA hs h1)]; exact hp
theorem qjZ {h0 h h1 : AH} (hs : Part h0 h) {t : TypeId} {x v : AV} {lo hi : Option Operand} (hp : qbm tab ta h0 t x lo hi none = .ok (v, h1)) : qbm tab ta h t x lo hi none = .ok (v, h) := by
 unfold qbm at hp ⊢; obtain ⟨d, hd, hp⟩ := zz0.1 hp; rw [rb hd]; split at hp
 · obtain ⟨_, h1, hp⟩ := zz0.1 hp; obtain ⟨l, h2, hp⟩ := zz0.1 hp; obtain ⟨u, h3, hp⟩ := zz0.1 hp; obtain ⟨_, h4, hp⟩ := zz0.1 hp
   cases hp; rw [rb h1, rb h2, rb h3, rb h4]
 · obtain ⟨_, h0, hp⟩ := zz0.1 hp; obtain ⟨l, h1, hp⟩ := zz0.1 hp; obtain ⟨u, h2, hp⟩ := zz0.1 hp; obtain ⟨m, h3, hp⟩ := zz0.1 hp; obtain ⟨_, h4, hp⟩ := zz0.1 hp
   cases hp; rw [rb h0, rb h1, rb h2, rb h3, rb h4]
 · rename_i cap _; obtain ⟨c, h0, hp⟩ := zz0.1 hp; obtain ⟨n, h1, hp⟩ := zz0.1 hp; obtain ⟨l, h2, hp⟩ := zz0.1 hp; obtain ⟨u, h3, hp⟩ := zz0.1 hp; rw [rb (qks hs h0), rb h1, rb h2, rb h3]; simp only at hp ⊢
   cases cap with
   | lit m =>
    simp only at hp ⊢; obtain ⟨_, h4, hp⟩ := zz0.1 hp
    cases hp; rw [rb h4]
   | tail k =>
    simp only at hp ⊢; obtain ⟨_, h4, hp⟩ := zz0.1 hp; rw [rb h4]
    cases h5 : Nat.beq l 0 <;> rw [h5] at hp <;> simp only [cond_true, cond_false] at hp ⊢
    · cases h6 : Nat.blt l c <;> rw [h6] at hp <;> simp only [cond_true, cond_false] at hp ⊢ <;> (cases hp; rfl)
    · cases hp; rfl
 · obtain ⟨_, h0, hp⟩ := zz0.1 hp; obtain ⟨l, h1, hp⟩ := zz0.1 hp; obtain ⟨u, h2, hp⟩ := zz0.1 hp; obtain ⟨_, h4, hp⟩ := zz0.1 hp
   cases hp; rw [rb h0, rb h1, rb h2, rb h4]
 · obtain ⟨_, h0, hp⟩ := zz0.1 hp; obtain ⟨l, h1, hp⟩ := zz0.1 hp; obtain ⟨u, h2, hp⟩ := zz0.1 hp; obtain ⟨_, h4, hp⟩ := zz0.1 hp
   cases hp; rw [rb h0, rb h1, rb h2, rb h4]
 · cases hp
theorem qjk {h0 h : AH} (hs : Part h0 h) {t : TypeId} {x y : AV} {r} (hp : eqOp tab h0 t x y = .ok r) : eqOp tab h t x y = .ok r := by
 unfold eqOp at hp ⊢; split at hp
 · obtain ⟨d, hd, hp⟩ := zz0.1 hp; rw [rb hd]; split at hp
   · obtain ⟨n, h1, hp⟩ := zz0.1 hp; obtain ⟨_, h2, hp⟩ := zz0.1 hp; rw [rb h1, rb h2]; split at hp
     · rename_i hc; simp only [hc, if_true]; exact hp
     · rename_i hc; simp only [hc, if_false]; split at hp
       · rename_i g1 g2; rw [hs _ _ g1, hs _ _ g2]; exact hp
       · cases hp
   · cases hp
 · exact hp
 · cases hp
 · exact hp
theorem qmu {h0 h : AH} (hs : Part h0 h) {op : BinOp} {t : TypeId} {x y : AV} {r} (hp : Am.binOp tab h0 op t x y = .ok r) : Am.binOp tab h op t x y = .ok r := by
 unfold Am.binOp at hp ⊢; split at hp
 · exact hp
 · exact hp
 · exact hp
 · exact hp
 · obtain ⟨b, h1, hp⟩ := zz0.1 hp; rw [rb (qjk hs h1)]; exact hp
 · obtain ⟨b, h1, hp⟩ := zz0.1 hp; rw [rb (qjk hs h1)]; exact hp
 · cases hp
theorem qmY {h0 h : AH} (hs : Part h0 h) {u : TypeDesc} {x : AV} {r} (hp : lenOf h0 u x = .ok r) : lenOf h u x = .ok r := by
 unfold lenOf at hp ⊢; split at hp
 · exact hp
 · exact hp
 · exact hp
 · exact hp
 · exact hp
 · exact hp
 · obtain ⟨q, h1, hp⟩ := zz0.1 hp; unfold qm1 at h1 ⊢; split at h1
   · rename_i hg
     cases h1; simp only [hs _ _ hg]; exact hp
   · cases h1
 · exact hp
 · cases hp
theorem qdz {h0 h h1 : AH} (hs : Part h0 h) {ats : Array TypeId} {l : List AV} {b : Builtin} (hb : b = .len \/ b = .min \/ b = .max) {v : AV} (hp : Am.builtin tab b ats l h0 = .ok (v, h1)) : Am.builtin tab b ats l h = .ok (v, h) := by
 rcases hb with rfl | rfl | rfl
 · cases l with
   | nil => cases hp
   | cons x l =>
    cases l with
    | cons y l => cases hp
    | nil =>
     unfold Am.builtin at hp ⊢; simp only at hp ⊢; obtain ⟨t, h1, hp⟩ := zz0.1 hp; obtain ⟨u, h2, hp⟩ := zz0.1 hp; rw [rb h1, rb h2]; split at hp
     · obtain ⟨w, h3, hp⟩ := zz0.1 hp; rw [rb h3]; split at hp
       · cases hp; rfl
       · cases hp
     · obtain ⟨n, h3, hp⟩ := zz0.1 hp; rw [rb (qmY hs h3)]
       cases hp; rfl
 · cases l with
   | nil => cases hp
   | cons x l =>
    cases x <;> first | (cases hp; done) | skip
    unfold Am.builtin at hp ⊢; simp only at hp ⊢; obtain ⟨t, h1, hp⟩ := zz0.1 hp; rw [rb h1]; cases hp; rfl
 · cases l with
   | nil => cases hp
   | cons x l =>
    cases x <;> first | (cases hp; done) | skip
    unfold Am.builtin at hp ⊢; simp only at hp ⊢; obtain ⟨t, h1, hp⟩ := zz0.1 hp; rw [rb h1]; cases hp; rfl
def lkd (op : Op) : Bool :=
 match op with
 | .lookup .. | .entry _ | .typeAssert .. => false
 | .slice _ _ _ _ (some _) => false
 | .call c => match c.callee with | .builtin .cap => false | _ => true
 | _ => true
theorem qeq {o : Oper} (hc : cls tab o = .pure \/ cls tab o = .read) (hlk : lkd o.op = true)
  {h0 h h1 : AH} (hs : Part h0 h) {v : AV} (hp : qaH tab ta h0 o = .ok (v, h1)) : qaH tab ta h o = .ok (v, h) := by
 obtain ⟨dst, op, type, pos, after, guard⟩ := o; unfold qaH at hp ⊢
 cases op <;> simp only [cls] at hc <;> simp only at hp ⊢
 case slice t x lo hi mx =>
  cases mx with
  | some m => cases hlk
  | none =>
    obtain ⟨a, ha, hp⟩ := zz0.1 hp; rw [rb ha]; exact qjZ hs hp
 case load t a =>
  obtain ⟨p, h1, hp⟩ := zz0.1 hp; rw [rb h1]; split at hp
  · obtain ⟨u, h2, hp⟩ := zz0.1 hp; rw [rb (qjC hs h2)]; cases hp; rfl
  · cases hp
 case binOp op t x y e =>
  obtain ⟨p, h1, hp⟩ := zz0.1 hp; obtain ⟨q, h2, hp⟩ := zz0.1 hp; obtain ⟨u, h3, hp⟩ := zz0.1 hp; rw [rb h1, rb h2, rb (qmu hs h3)]; cases hp; rfl
 case convert src dst x =>
  obtain ⟨k, j, e1, e2⟩ := qlq hc; obtain ⟨w, h1, hp⟩ := zz0.1 hp; obtain ⟨i, n, rfl, rfl, _⟩ := qnR e1 e2 hp; rw [rb h1]; exact qhE e1 e2 i n h
 case lookup => cases hlk
 case entry => cases hlk
 case typeAssert => cases hlk
 case call c =>
  cases hcc : c.callee with
  | builtin b =>
    rw [hcc] at hp hc; simp only at hp hc ⊢; obtain ⟨l, hl, hp⟩ := zz0.1 hp; rw [rb hl]
    cases b <;> first
     | exact qdz hs (.inl rfl) hp
     | exact qdz hs (.inr (.inl rfl)) hp
     | exact qdz hs (.inr (.inr rfl)) hp
     | (simp only [lkd, hcc] at hlk; cases hlk; done)
     | (rcases hc with hc | hc <;> cases hc)
  | value f => rw [hcc] at hp; cases hp
  | invoke r m => rw [hcc] at hp; cases hp
 all_goals first
  | (rcases hc with hc | hc <;> cases hc; done)
  | skip
 all_goals (repeat' first
  | (cases hp; done)
  | (cases hp; rfl)
  | (obtain ⟨_, hx, hp⟩ := zz0.1 hp; rw [rb hx]; clear hx)
  | split at hp)
end
end Go.Sy
namespace Go.Sy
open Go.Am Go.RowKit
universe u v
variable [Inhabited DrP]
section
variable {tab : Tab} {view : TypeId -> Option View} {C : Cx} {s : St} {ta : T AV} {a : AH} {h : SH}
def Look (C : Cx) (s : St) (a : AH) (K : SV -> St -> Prop) (r : R (AV × AH)) : Prop := ∃ sv v, K sv s /\ r = .ok (v, a) /\ SimV C sv v
theorem Look.same {K : SV -> St -> Prop} {sv : SV} {v : AV} (hv : SimV C sv v) (hk : K sv s) : Look C s a K (.ok (v, a)) := ⟨sv, v, hk, rfl, hv⟩
theorem Look.val {K : SV -> St -> Prop} {r : R AV} (h : Val C (fun v => K v s) r) : Look C s a K (do .ok (<- r, a)) := by
 obtain ⟨sv, v, h1, h2, h3⟩ := h; rw [rb h1]; exact Look.same h2 h3
theorem qk3 (hF : FS C s.ts ta) (H : HS tab C s.h a) {t : TypeId} {x : SV} {v : AV} (hv : SimV C x v) {lo hi : Option Operand} {K : SV -> St -> Prop} (hK : ∀ sv s1, K sv s1 -> s1.log = s.log) (h : qj1 tab s t x lo hi K) : Look C s a K (qbm tab ta a t v lo hi none) := by
 unfold qj1 at h; obtain ⟨l, h1, hl⟩ := qiE hF h; obtain ⟨u, h2, hu⟩ := qiE hF h1; clear h h1; have h := h2; clear h2; have o1 : ∀ d : R Nat, qaS ta d lo = optV l d := fun d => (hl d).1
 have o2 : ∀ d : R Nat, qaS ta d hi = optV u d := fun d => (hu d).1
 clear hl hu; split at h
 · rename_i c hg; rw [qbA hv]; obtain ⟨h1, h2, h3⟩ := qfq h; unfold qbm; rw [rb (show und tab t = _ from ro hg)]; simp only; rw [rb (show R.check "slice: max" (none : Option Operand).isNone = .ok () from rfl), rb (show qaS ta (.ok 0) lo = .ok (l.getD 0) from by rw [o1]; cases l <;> rfl), rb (show qaS ta (.ok c.length) hi = .ok (u.getD c.length) from by rw [o2]; cases u <;> rfl),
     rb (rc (by simp only [Bool.and_eq_true, Nat.ble_eq]; omega))]
   exact Look.same (.pure (.str _)) h3
 · rename_i e X L enc hg; split at h
   · rename_i n hn; obtain ⟨hlen, h⟩ := h; obtain ⟨h1, h2, h3⟩ := qfq h; obtain ⟨w, h4, h5⟩ := qfd hg hn H.fz (qbW hv rfl) hlen o1 o2 h1 h2; rw [h4]; exact Look.same (.pure h5) h3
   · exact h.elim
 · rename_i e b hg; split at h
   · rename_i X L enc t' n hb hn; obtain ⟨hlen, h⟩ := h; obtain ⟨h1, h2, h3⟩ := qfq h; obtain ⟨C', e1, e2, e3, e4, e5, e6⟩ := zz56 hF H hb; obtain ⟨w, h4, h5⟩ := qfd hg hn e3.fz (e5 v hv) hlen o1 o2 h1 h2; have := hK _ _ h3; rw [e1] at this; simp at this
   · exact h.elim
 · rename_i e b off len cap hg; split at h
   · rename_i n hn; obtain ⟨h1, h2⟩ := qaB h; simp only [Bool.and_eq_true] at h1
     cases hv with
     | pure hv => cases hv
     | sl hI =>
      unfold qbm; rw [rb (show und tab t = _ from ro hg)]; simp only; rw [rb (show capLow a _ (.lit cap) = .ok cap from rfl), rb (show siz tab e = .ok n from ro hn), rb (show qaS ta (.ok 0) lo = .ok (l.getD 0) from by rw [o1]; cases l <;> rfl),
       rb (show qaS ta (.ok len) hi = .ok (u.getD len) from by rw [o2]; cases u <;> rfl),
       rb (rc (by simp only [Bool.and_eq_true]; exact h1))]
      exact Look.same (.sl hI) h2
   · exact h.elim
 · exact h.elim
theorem qc8 (hF : FS C s.ts ta) (H : HS tab C s.h a) {b : Builtin} {ats : Array TypeId} {l : List SV} {vs : List AV} (hl : SimL C l vs) (hb : b = .len \/ b = .min \/ b = .max) {K : SV -> St -> Prop} (h : qdU tab view s b ats l K) : Look C s a K (Am.builtin tab b ats vs a) := by
 unfold qdU at h; split at h
 ·
   rename_i x; have hv : ∃ v, vs = [v] /\ SimV C x v := by
    cases vs with
    | nil => have := hl.1; simp at this
    | cons v vs => cases vs with
      | nil => exact ⟨v, rfl, hl.head.1⟩
      | cons => have := hl.1; simp at this
   obtain ⟨v, rfl, hx⟩ := hv; unfold Am.builtin; simp only
   cases ht : ats[0]? with
   | none => rw [ht] at h; simp at h
   | some t =>
    rw [ht] at h; simp only [Option.bind_some] at h; rw [rb (ro rfl)]; split at h
    · rename_i hg; split at h
      · rw [qbA hx, rb (show und tab t = _ from ro hg)]; exact Look.same (.pure (.int _ _)) h
      · exact h.elim
    · rename_i e hg; obtain ⟨n, h1, h2⟩ := qaK h; rw [rb (show und tab t = _ from ro hg)]; simp only; rw [rb (qor H hx h1)]; exact Look.same (.pure (.int _ _)) h2
    · exact h.elim
 · rcases hb with hb | hb | hb <;> cases hb
 ·
   rename_i k x l
   cases vs with
   | nil => have := hl.1; simp at this
   | cons v vs =>
    obtain ⟨h1, h2⟩ := hl.head; rw [qbL h1]; obtain ⟨sv, h3, h4⟩ := qaK h; obtain ⟨v, h5, h6⟩ := qoA h2 h3; unfold Am.builtin; simp only; rw [rb h5]; exact Look.same h6 h4
 ·
   rename_i k x l
   cases vs with
   | nil => have := hl.1; simp at this
   | cons v vs =>
    obtain ⟨h1, h2⟩ := hl.head; rw [qbL h1]; obtain ⟨sv, h3, h4⟩ := qaK h; obtain ⟨v, h5, h6⟩ := qow h2 h3; unfold Am.builtin; simp only; rw [rb h5]; exact Look.same h6 h4
 · exact h.elim
theorem qq6 (hF : FS C s.ts ta) (H : HS tab C s.h a) {o : Oper} (hc : cls tab o = .pure \/ cls tab o = .read) {K : SV -> St -> Prop} (hK : ∀ sv s1, K sv s1 -> s1.log = s.log) (h : sop tab view s o K) : lkd o.op = true /\ Look C s a K (qaH tab ta a o) := by
 obtain ⟨dst, op, type, pos, after, guard⟩ := o; unfold sop at h; unfold qaH; have same1 : ∀ {x : Operand} {K' : SV -> Prop}, so (sev s.ts x) K' -> ∃ sv v, ev ta x = .ok v /\ SimV C sv v /\ K' sv := by
  intro x K' h; obtain ⟨sv, h1, h2⟩ := qaK h; obtain ⟨v, h3, h4⟩ := qcJ hF h1; exact ⟨sv, v, h3, h4, h2⟩
 cases op <;> simp only at h ⊢ <;> simp only [cls, lkd] at hc ⊢
 case move x =>
  refine ⟨trivial, ?_⟩; obtain ⟨sv, v, h3, h4, h2⟩ := same1 h; rw [evR h3]; exact Look.same h4 h2
 case assign x =>
  refine ⟨trivial, ?_⟩; obtain ⟨sv, v, h3, h4, h2⟩ := same1 h; rw [evR h3]; exact Look.same h4 h2
 case pick c x y =>
  refine ⟨trivial, ?_⟩; split at h
  · rename_i p hc; obtain ⟨v, h3, h4⟩ := qcJ hF hc; rw [qcp h4] at h3; rw [evR h3]; split at h
    · rename_i p1 p2 hx hy; obtain ⟨u, g1, g2⟩ := qcJ hF hx; obtain ⟨w, g3, g4⟩ := qcJ hF hy; rw [qcp g2] at g1; rw [qcp g4] at g3
      cases p
      · simp only; rw [evR g3]; exact Look.same (.pure (.bool _)) h
      · simp only; rw [evR g1]; exact Look.same (.pure (.bool _)) h
    · rcases qpv h with ⟨rfl, h⟩ | ⟨rfl, h⟩
      · obtain ⟨sv, v, h3, h4, h2⟩ := same1 h; simp only; rw [evR h3]; exact Look.same h4 h2
      · obtain ⟨sv, v, h3, h4, h2⟩ := same1 h; simp only; rw [evR h3]; exact Look.same h4 h2
  · exact h.elim
 case build t ps =>
  refine ⟨trivial, ?_⟩; obtain ⟨l, h1, h2⟩ := qaK h; obtain ⟨sv, h3, h4⟩ := qaK h2; obtain ⟨vs, g1, g2, g3⟩ := qe7 hF h1; obtain ⟨v, g4, g5⟩ := qi0 g2 g3 h3; rw [rb g1, rb g4]; exact Look.same g5 h4
 case load t x =>
  refine ⟨trivial, ?_⟩; obtain ⟨sv, v, h3, h4, h2⟩ := same1 h; obtain ⟨b, off, u, su, rfl, g1, g2, g3⟩ := qiA H h4 h2; rw [evR h3]; simp only; rw [rb g1]; exact Look.same g2 g3
 case nilCheck x =>
  refine ⟨trivial, ?_⟩; obtain ⟨sv, v, h3, h4, h2⟩ := same1 h; rw [evR h3]; split at h2
  · cases h4 with
    | pure h => cases h
    | ptr hI => exact Look.same (.ptr hI) h2
  · cases h4 with
    | pure h => cases h
    | eptr hI hc => exact Look.same (.eptr hI hc) h2
  · cases h4 with
    | pure h => cases h with
      | rptr b base ca e sz ext bk u hb hl h1 h2' => exact Look.same (.pure (.rptr b base ca e sz ext bk u hb hl h1 h2')) h2
  · cases h4 with
    | pure h => cases h with
      | fn h1 h2' h3' h4' => exact Look.same (.pure (.fn h1 h2' h3' h4')) h2
    | fn h1 h2' h3' h4' => exact Look.same (.fn h1 h2' h3' h4') h2
  · exact h2.elim
 case binOp op t x y _ =>
  refine ⟨trivial, ?_⟩; obtain ⟨sv, v, h3, h4, h2⟩ := same1 h; obtain ⟨sw, w, g3, g4, g2⟩ := same1 h2; rw [evR h3, evR g3]; exact Look.val (qoY g2 h4 g4)
 case unOp op _ x =>
  refine ⟨trivial, ?_⟩; obtain ⟨sv, v, h3, h4, h2⟩ := same1 h; rw [evR h3]; exact Look.val (qrM h2 h4)
 case makeFunc fn first captured =>
  refine ⟨trivial, ?_⟩; split at h
  · obtain ⟨xs, h1, h2⟩ := qaK h; obtain ⟨ys, h3, h4⟩ := qaK h2; obtain ⟨us, g1, g2⟩ := qet hF h1; obtain ⟨vs, g3, g4⟩ := qet hF h3; simp only; rw [rb g1, rb g3]; exact Look.same (.fn g2.1 g4.1 g2.2 g4.2) h4
  · exact h.elim
 case fieldAddr st x f =>
  refine ⟨trivial, ?_⟩; obtain ⟨fd, h1, h2⟩ := qaK h; obtain ⟨hck, h3⟩ := qaB h2; obtain ⟨sv, v, h4, h5, h6⟩ := same1 h3; rw [rb (qeQ h1)]; split at hck
  · rename_i n hn; rw [rb (show siz tab fd.type = _ from ro hn), rb (rc hck), evR h4]; split at h6
    · cases h5 with
      | pure h => cases h
      | ptr hI => exact Look.same (.ptr hI) h6
    · cases h5 with
      | pure h => cases h
      | eptr hI hc => simp only [Nat.add_assoc]; exact Look.same (.eptr hI hc) h6
    · cases h5 with
      | pure h => cases h with
        | rptr b base ca e sz ext bk u hb hl h1 h2' => simp only [Nat.add_assoc]; exact Look.same (.pure (.rptr b base ca e sz ext bk u hb hl h1 h2')) h6
    · exact h6.elim
  · cases hck
 case field t x f =>
  refine ⟨trivial, ?_⟩; obtain ⟨fd, h1, h2⟩ := qaK h; obtain ⟨sv, v, h4, h5, h6⟩ := same1 h2; rw [rb (qeQ h1), evR h4]; split at h6
  · obtain ⟨us, rfl, g1⟩ := qdy h5; obtain ⟨su, g2, g3⟩ := qaK h6; obtain ⟨u, g4, g5⟩ := qd3 g1 g2; simp only; rw [rb g4]; exact Look.same g5 g3
  · exact h6.elim
 case indexAddr t x ix =>
  refine ⟨trivial, ?_⟩; obtain ⟨sj, vj, h1, h2, h3⟩ := same1 h; obtain ⟨i, h4, h5⟩ := qgU h3 h2; obtain ⟨sv, v, h6, h7, h8⟩ := same1 h5; rw [evR h1, rb h4]; split at h8
  · rename_i len e b off hg; split at h8
    · rename_i n hn; obtain ⟨g1, g2⟩ := qaB h8; rw [rb (show und tab t = _ from ro hg), evR h6]
      cases h7 with
      | pure h => cases h
      | ptr hI => simp only; rw [rb (rc g1), rb (show siz tab e = _ from ro hn)]; exact Look.same (.ptr hI) g2
    · exact h8.elim
  · rename_i e b off len cap hg; split at h8
    · rename_i n hn; obtain ⟨g1, g2⟩ := qaB h8; rw [rb (show und tab t = _ from ro hg), evR h6]
      cases h7 with
      | pure h => cases h
      | sl hI => simp only; rw [rb (rc g1), rb (show siz tab e = _ from ro hn)]; exact Look.same (.ptr hI) g2
    · exact h8.elim
  · rename_i e X L enc hg; split at h8
    · rename_i n hn; obtain ⟨x, g1, g2⟩ := qaK h8; obtain ⟨g2, g3⟩ := qaB g2; have g2 := Nat.eq_of_beq_eq_true g2; have hi := (List.getElem?_eq_some_iff.1 g1).1; obtain ⟨b, off, cap, cs, e', sz, ext, bk, rfl, hb, hs, hl, hsz, hc, hcell⟩ := ql1 (qbW h7 rfl) (by rintro rfl; simp at hi); obtain ⟨sz0, ext0, hb, hx0⟩ := hb; have hszn : sz = n := by rw [<- hsz i x g1]; exact g2
      subst hszn; rw [rb (show und tab t = _ from ro hg), evR h6]; simp only; rw [rb (rc (by simpa using hi)), rb (show siz tab e = _ from ro hn)]; refine Look.same (.pure ?_) g3; refine .rptr b (off + i * sz) cs e' sz0 ext0 bk (fun j => (cs[off + i * sz + j]?).getD (.tup [])) hb ?_ ?_ ?_
      · rw [g2]; have : i * sz + sz <= L.length * sz := by
         calc i * sz + sz = (i + 1) * sz := by rw [Nat.add_mul, Nat.one_mul]
          _ <= L.length * sz := Nat.mul_le_mul_right _ hi
        omega
      · intro j v hv; obtain ⟨u, q1, _⟩ := hcell i x j v g1 hv; rw [q1]; rfl
      · intro j v hv; obtain ⟨u, q1, q2⟩ := hcell i x j v g1 hv; rw [q1]; exact q2
    · exact h8.elim
  · rename_i e b hg; split at h8
    · rename_i n X L enc e' hn hb; obtain ⟨g1, g2⟩ := qaB h8; simp only [Bool.and_eq_true] at g1; have hee := Nat.eq_of_beq_eq_true g1.1; subst hee; have hi : i < L.length := by simpa using g1.2
      rw [rb (show und tab t = _ from ro hg), evR h6]
      cases h7 with
      | pure h => cases h
      | own0 hI hc =>
        obtain ⟨_, _, _, _, k5⟩ := H.at_ hb hI; rw [hc] at k5; omega
      | own hI hc =>
        rename_i I c; obtain ⟨k1, k2, k3, _, k5⟩ := H.at_ hb hI; have hsz : I.sz = n := by rw [hn] at k1; exact (Option.some.inj k1).symm
        simp only; rw [rb (rc (by rw [k3]; simpa using hi)), rb (show siz tab e = _ from ro hn)]; have hh : SimV C (.eptr b i 0) (.ptr I.β (i * I.sz + 0)) := .eptr hI (by simp [hc]); rw [hsz, Nat.add_zero] at hh; rw [Nat.zero_add]; exact Look.same hh g2
    · exact h8.elim
  · exact h8.elim
 case index t x ix =>
  refine ⟨trivial, ?_⟩; obtain ⟨sj, vj, h1, h2, h3⟩ := same1 h; obtain ⟨i, h4, h5⟩ := qgU h3 h2; obtain ⟨sv, v, h6, h7, h8⟩ := same1 h5; rw [evR h1, rb h4]; split at h8
  · rename_i len e cs hg; split at h8
    · rename_i n hn; obtain ⟨g1, g2⟩ := qaB h8; obtain ⟨su, g3, g4⟩ := qaK g2; obtain ⟨us, rfl, g5⟩ := qdy h7; obtain ⟨u, g6, g7⟩ := qd3 g5 g3; rw [rb (show und tab t = _ from ro hg), evR h6]; simp only; rw [rb (rc g1), rb (show siz tab e = _ from ro hn), rb g6]; exact Look.same g7 g4
    · exact h8.elim
  · rename_i c hg; obtain ⟨b, g1, g2⟩ := qaK h8; rw [rb (show und tab t = _ from ro hg), evR h6, qbA h7]; simp only; rw [rb (ro g1)]; exact Look.same (.pure (.int _ _)) g2
  · exact h8.elim
 case extract t i =>
  refine ⟨trivial, ?_⟩; obtain ⟨sv, v, h6, h7, h8⟩ := same1 h; rw [evR h6]; split at h8
  · obtain ⟨us, rfl, g5⟩ := qml h7; obtain ⟨su, g3, g4⟩ := qaK h8; obtain ⟨u, g6, g7⟩ := g5.get g3; simp only; rw [rb (ro g6)]; exact Look.same g7 g4
  · exact h8.elim
 case slice t x lo hi mx =>
  cases mx with
  | some m => exact h.elim
  | none =>
    refine ⟨rfl, ?_⟩; obtain ⟨sv, v, h3, h4, h2⟩ := same1 h; rw [evR h3]; exact qk3 hF H h4 hK h2
 case call c =>
  split at h
  · rename_i b hb; obtain ⟨l, h1, h2⟩ := qaK h; obtain ⟨vs, g1, g2⟩ := qet hF h1; rw [hb] at hc ⊢; simp only at hc ⊢; rw [rb g1]
    cases b <;> simp only at hc ⊢ <;> first | (rcases hc with hc | hc <;> cases hc; done) | skip
    case len => exact ⟨trivial, qc8 hF H g2 (.inl rfl) h2⟩
    case min => exact ⟨trivial, qc8 hF H g2 (.inr (.inl rfl)) h2⟩
    case max => exact ⟨trivial, qc8 hF H g2 (.inr (.inr rfl)) h2⟩
    case cap => unfold qdU at h2; exact h2.elim
  · exact h.elim
 case convert src dst x =>
  refine ⟨trivial, ?_⟩; obtain ⟨k0, j0, e1, e2⟩ := qlq hc; obtain ⟨sv, v, h3, h4, h2⟩ := same1 h; rw [evR h3]; unfold qp2 at h2; split at h2
  · rename_i d k i n hs hd; rw [e2] at hd
    cases hd; rw [qbL h4, qhE e1 e2]; exact Look.same (.pure (.int _ _)) h2
  all_goals first
    | exact h2.elim
    | (rename_i hd; rw [e2] at hd; cases hd; done)
 all_goals first | exact h.elim | (rcases hc with hc | hc <;> cases hc)
end
end Go.Sy
namespace Go.Sy
open Go.Am Go.RowKit
universe u v
variable [Inhabited DrP]
section
variable {tab : Tab} {view : TypeId -> Option View} {C : Cx} {s : St} {ta : T AV} {a : AH}
def Made (tab : Tab) (C : Cx) (s : St) (a : AH) (K : SV -> St -> Prop) (r : AH -> R (AV × AH)) : Prop :=
 ∃ sv v so ao I, K sv (s.new so) /\ (∀ h' : AH, h'.next = a.next -> r h' = .ok (v, h'.new ao)) /\ I.β = a.next /\ I.cap.isSome /\ (∀ C', C.le C' -> C'.ρ s.h.next = some I -> SimV C' sv v) /\ ∀ (C' : Cx) (a' : AH), C.le C' -> a'.get a.next = some ao -> SimO tab C' I so a'
theorem Made.cells {cs : List SV} {ca : List AV} (hc : SimL C cs ca) {e n : Nat} (hn : tab.siz.get e = some n) {K : SV -> St -> Prop} {sv : SV} {f : Nat -> AV} (hv : ∀ C' : Cx, ∀ I : BI, C'.ρ s.h.next = some I -> SimV C' sv (f I.β)) (hk : K sv (s.new (.cells cs e))) {r : AH -> R (AV × AH)}
  (hr : ∀ h' : AH, h'.next = a.next -> r h' = .ok (f h'.next, h'.new (.cells ca e n false .rw))) : Made tab C s a K r := by
 refine ⟨sv, f a.next, .cells cs e, .cells ca e n false .rw, ⟨a.next, 0, n, some (.lit 0)⟩, hk, fun h' hh => by rw [hr h' hh, hh], rfl, rfl, fun C' _ hI => hv C' _ hI, fun C' a' hle hg => ⟨rfl, ca, n, hg, hc.le hle, hn⟩⟩
theorem qq7 (hF : FS C s.ts ta) {o : Oper} (hc : cls tab o = .alloc) {K : SV -> St -> Prop} (h : sop tab view s o K) : Made tab C s a K fun h' => qaH tab ta h' o := by
 obtain ⟨dst, op, type, pos, after, guard⟩ := o; unfold sop at h; unfold qaH; have same1 : ∀ {x : Operand} {K' : SV -> Prop}, so (sev s.ts x) K' -> ∃ sv v, ev ta x = .ok v /\ SimV C sv v /\ K' sv := by
  intro x K' h; obtain ⟨sv, h1, h2⟩ := qaK h; obtain ⟨v, h3, h4⟩ := qcJ hF h1; exact ⟨sv, v, h3, h4, h2⟩
 cases op <;> simp only at h ⊢ <;> simp only [cls] at hc
 case alloc e =>
  obtain ⟨n, hn, h⟩ := qaK h; obtain ⟨cs, h1, h2⟩ := qaK h; obtain ⟨zv, zc, g1, g2, g3⟩ := qdp (C := C) h1; exact Made.cells (f := fun b => .ptr b 0) g3 hn (fun C' I hI => .ptr hI) h2 (fun h' _ => by rw [rb g1, rb g2, rb (qaC hn _ _ _)])
 case box e x =>
  obtain ⟨n, hn, h⟩ := qaK h; obtain ⟨sv, v, h3, h4, h2⟩ := same1 h; obtain ⟨hk, h2⟩ := qaB h2; obtain ⟨l, g1, g2⟩ := qeF h4 hk; exact Made.cells (f := fun b => .ptr b 0) g2 hn (fun C' I hI => .ptr hI) h2 (fun h' _ => by rw [evR h3, rb g1, rb (qaC hn _ _ _)])
 case buildSlice t len ps =>
  obtain ⟨l, h1, h2⟩ := qaK h; obtain ⟨vs, g1, g2, g3⟩ := qe7 hF h1; have : (fun h' => (do let l <- qcd ta ps.toList; Am.buildSlice tab h' t len l)) = fun h' => Am.buildSlice tab h' t len vs := by
    funext h'; rw [rb g1]
  rw [this]; clear this; clear h h1; have h := h2; clear h2; unfold qc7 at h; split at h
  · rename_i e hg; split at h
    · rename_i n z hn hz; obtain ⟨hck, h1⟩ := qaB h; clear h; simp only [Bool.and_eq_true] at hck; obtain ⟨zv, zc, q1, q2, q3⟩ := qdp (C := C) hz; have hzl : (Nat.beq zc.length n) = true := by rw [<- q3.1]; exact hck.2
      have hb : ∀ (h' : AH) (ca : List AV), fill (rep len zc) (vs.map fun (i, v) => (i * n, n, v)) = .ok ca -> Am.buildSlice tab h' t len vs = .ok (.sl h'.next 0 len (.lit len), h'.new (.cells ca e n false .rw)) := by
        intro h' ca hca; unfold Am.buildSlice; rw [rb (show und tab t = _ from ro hg)]; simp only; rw [rb (show siz tab e = _ from ro hn), rb (rc hck.1), rb q1, rb q2, rb (rc hzl), rb hca, rb (qaC hn _ _ _)]
      by_cases hl0 : len = 0
      · subst hl0; simp only [Nat.beq_refl, cond_true] at h1; obtain ⟨hck2, h2⟩ := qaB h1; clear h1; simp only [Bool.and_eq_true, List.isEmpty_iff, Bool.not_eq_true'] at hck2; obtain ⟨rfl, hn0⟩ := hck2; have hn0 : n ≠ 0 := fun e => by subst e; simp at hn0
        cases vs with
        | cons => simp at g2
        | nil =>
         split at h2
         · rename_i V hV; refine ⟨_, .sl a.next 0 0 (.lit 0), _, .cells [] e n false .rw, ⟨a.next, 0, n, some (.lit 0)⟩, h2, fun h' hh => (hb h' [] rfl).trans (by rw [hh]), rfl, rfl, fun C' _ hI => .own hI rfl, fun C' a' hle hg => ⟨hn, by simp only; omega, rfl, fun i x hx => by simp at hx, [], false, .rw, hg, by simp, by simp, .inr ⟨rfl, rfl⟩, fun i x j v hx => by simp at hx⟩⟩
         · exact h2.elim
      · rw [qa4 hl0] at h1; simp only [cond_false] at h1; obtain ⟨cs, h2, hk⟩ := qaK h1; obtain ⟨ca, h3, h4⟩ := qf8 (qs := vs.map fun x => (x.1 * n, n, x.2)) (qoP q3 len) (by
         simp only [List.map_map]; have := congrArg (List.map (fun i => (i * n, n))) g2; simpa [List.map_map, Function.comp_def] using this) (by simpa [List.map_map, Function.comp_def] using g3) h2
        exact Made.cells (f := fun b => .sl b 0 len (.lit len)) h4 hn (fun C' I hI => .sl hI) hk (fun h' _ => hb h' ca h3)
    · exact h.elim
  · exact h.elim
 case call c =>
  cases hcc : c.callee with
  | builtin b => rw [hcc] at hc; cases b <;> cases hc
  | value f => rw [hcc] at hc; cases hc
  | invoke r m => rw [hcc] at hc; cases hc
 case convert src dst x => exact (qpB hc).elim
 all_goals first | exact h.elim | (cases hc; done)
end
end Go.Sy
namespace Go.Sy
open Go.Am Go.RowKit
universe u v
variable [Inhabited DrP]
theorem qeU : ∀ (l : List (Nat × Nat)) (h : SH) (p : Nat), (qiw h l).get p = if ∃ x ∈ l, x.2 = p then none else h.get p := by
 intro l; induction l with
 | nil => intro h p; simp [qiw]
 | cons x l ih =>
  intro h p; obtain ⟨i, b⟩ := x; simp only [qiw, ih, SH.get_set]; by_cases h1 : ∃ x ∈ l, x.2 = p
  · rw [if_pos h1, if_pos]; obtain ⟨x, hx, e⟩ := h1; exact ⟨x, List.mem_cons_of_mem _ hx, e⟩
  · rw [if_neg h1]; by_cases h2 : p = b
    · rw [if_pos h2, if_pos ⟨(i, b), List.mem_cons_self, h2.symm⟩]
    · rw [if_neg h2, if_neg]; rintro ⟨x, hx, e⟩; rcases List.mem_cons.1 hx with rfl | hx
      · exact h2 e.symm
      · exact h1 ⟨x, hx, e⟩
theorem qmR : ∀ (l : List (Nat × Nat)) (h : SH), (qiw h l).next = h.next := by
 intro l; induction l with
 | nil => intro h; rfl
 | cons x l ih => intro h; obtain ⟨i, b⟩ := x; simp only [qiw, ih, SH.next_set]
theorem qco (h0 : SH) (log : List Ev) : ∀ (l : List (Nat × Nat)) (h : SH) (p : Nat), (qfl h h0 log l).get p = if ∃ x ∈ l, x.2 = p then logO (h0.get p) log else h.get p := by
 intro l; induction l with
 | nil => intro h p; simp [qfl]
 | cons x l ih =>
  intro h p; obtain ⟨i, b⟩ := x; simp only [qfl, ih, SH.get_set]; by_cases h1 : ∃ x ∈ l, x.2 = p
  · rw [if_pos h1, if_pos]; obtain ⟨x, hx, e⟩ := h1; exact ⟨x, List.mem_cons_of_mem _ hx, e⟩
  · rw [if_neg h1]; by_cases h2 : p = b
    · rw [if_pos h2, if_pos ⟨(i, b), List.mem_cons_self, h2.symm⟩, h2]
    · rw [if_neg h2, if_neg]; rintro ⟨x, hx, e⟩; rcases List.mem_cons.1 hx with rfl | hx
      · exact h2 e.symm
      · exact h1 ⟨x, hx, e⟩
theorem qmt (h0 : SH) (log : List Ev) : ∀ (l : List (Nat × Nat)) (h : SH), (qfl h h0 log l).next = h.next := by
 intro l; induction l with
 | nil => intro h; rfl
 | cons x l ih => intro h; obtain ⟨i, b⟩ := x; simp only [qfl, ih, SH.next_set]
theorem qjN (h : SH) (n : Nat) : ∀ (l : List Nat) (p : Nat), (SH.mk n (qjM h l)).get p = if p ∈ l then h.get p else none := by
 intro l; induction l with
 | nil => intro p; simp [qjM, SH.get, look]
 | cons b l ih =>
  intro p; have := ih p; simp only [SH.get, qjM, qaY] at this ⊢; by_cases e : p = b
  · subst e; simp only [if_true, List.mem_cons, true_or]
    cases hg : look h.os p with
    | none => rfl
    | some o => cases o <;> rfl
  · simp only [if_neg e, List.mem_cons, e, false_or]; exact this
open Classical in
theorem cutA {a : AH} (hwf : ∀ i o, a.get i = some o -> i < a.next) (P : Nat -> Prop) : ∃ a0 : AH, a0.next = a.next /\ ∀ i, a0.get i = if P i then a.get i else none := by
 refine ⟨qa5 a (((List.range a.next).filter fun i => decide (¬ P i)).map fun i => (0, i)), qat _ _, fun i => ?_⟩; rw [qar]; by_cases hP : P i
 · rw [if_pos hP, if_neg]; rintro ⟨x, hx, e⟩; obtain ⟨j, hj, rfl⟩ := List.mem_map.1 hx; simp only [List.mem_filter, decide_eq_true_eq] at hj; simp only at e; exact hj.2 (e ▸ hP)
 · rw [if_neg hP]; split
   · rfl
   · rename_i hn
     cases hg : a.get i with
     | none => rfl
     | some o => exact absurd ⟨(0, i), List.mem_map.2 ⟨i, by simp only [List.mem_filter, List.mem_range, decide_eq_true_eq]; exact ⟨hwf i o hg, hP⟩, rfl⟩, rfl⟩ hn
section
variable {tab : Tab} {C C' : Cx} {h h0 : SH} {a a0 : AH}
theorem HS.part (H : HS tab C h a) (hn : h0.next = h.next) (hh : ∀ p o, h0.get p = some o -> h.get p = some o) (hp : Part a0 a) (hn0 : a0.next = a.next) (hf : ∀ i o, C.Fz i = some o -> a0.get i = some o)
   (hb : ∀ p o I, h0.get p = some o -> C.ρ p = some I -> I.cap.isSome -> a0.get I.β = a.get I.β) : HS tab C h0 a0 := by
 refine ⟨fun p o hp => ?_, fun p q o o' I J hp hq => H.inj p q o o' I J (hh p o hp) (hh q o' hq), hf, fun p o I hp => H.dj p o I (hh p o hp), fun p I hI => by rw [hn]; exact H.lt p I hI, fun i o hi => by rw [hn0]; exact H.wf i o (hp i o hi)⟩; obtain ⟨I, hI, ho⟩ := H.obj p o (hh p o hp); refine ⟨I, hI, ?_⟩; by_cases hc : I.cap.isSome
 · exact ho.congr (hb p o I hp hI hc)
 · cases o with
   | cells cs t => exact absurd ho.1 hc
   | arr X L enc t =>
    obtain ⟨g1, g2, g3, g4, g5⟩ := ho; refine ⟨g1, g2, g3, g4, ?_⟩
    cases hcap : I.cap with
    | none => rw [hcap] at g5; exact g5
    | some c => rw [hcap] at hc; simp at hc
end
theorem qrW : ∀ {l : List AV}, (∀ (i : Nat) v, l[i]? = some v -> AV.beq v v = true) -> zz35 l l = true := by
 intro l; induction l with
 | nil => intro _; rfl
 | cons v l ih => intro h; simp only [zz35, Bool.and_eq_true]; exact ⟨h 0 v rfl, ih fun i w hw => h (i + 1) w (by simpa using hw)⟩
theorem qoa : ∀ {l : List SV}, zz49 l = true -> ∀ (i : Nat) (s : SV), l[i]? = some s -> s.full = true := by
 intro l; induction l with
 | nil => intro _ i s h; simp at h
 | cons v l ih =>
  intro h i s hs; simp only [zz49, Bool.and_eq_true] at h
  cases i with
  | zero => simp at hs; rw [<- hs]; exact h.1
  | succ i => exact ih h.2 i s (by simpa using hs)
theorem qcC {l : List SV} {m : List AV} (hl : l.length = m.length) (hf : zz49 l = true) (h : ∀ (i : Nat) s v, l[i]? = some s -> m[i]? = some v -> s.full = true -> AV.beq v v = true) : zz35 m m = true := by
 refine qrW fun i v hv => ?_
 have hi := (List.getElem?_eq_some_iff.1 hv).1; have hs : l[i]? = some l[i] := List.getElem?_eq_getElem (by omega); exact h i _ v hs hv (qoa hf i _ hs)
theorem qob {Fz : Nat -> Option AO} {s : SV} {v : AV} (h : SimP Fz s v) (hf : s.full = true) : AV.beq v v = true := by
 induction h with
 | any v => cases hf
 | lst0 h0 hv => rcases hv with rfl | ⟨b, off, l, n, k, rfl⟩ | ⟨a, c, rfl⟩ <;> simp [AV.beq]
 | fn h1 h2 _ _ ih3 ih4 =>
  simp only [SV.full, Bool.and_eq_true] at hf; simp only [AV.beq, Bool.and_eq_true]; exact ⟨⟨by simp, qcC h1 hf.1 ih3⟩, qcC h2 hf.2 ih4⟩
 | agg h1 _ ih => simp only [SV.full] at hf; simp only [AV.beq]; exact qcC h1 hf ih
 | tup h1 _ ih => simp only [SV.full] at hf; simp only [AV.beq]; exact qcC h1 hf ih
 | _ => simp [AV.beq]
theorem qqj {C : Cx} {s : SV} {v : AV} (h : SimV C s v) (hf : s.full = true) : AV.beq v v = true := by
 induction h with
 | pure h => exact qob h hf
 | fn h1 h2 _ _ ih3 ih4 =>
  simp only [SV.full, Bool.and_eq_true] at hf; simp only [AV.beq, Bool.and_eq_true]; exact ⟨⟨by simp, qcC h1 hf.1 ih3⟩, qcC h2 hf.2 ih4⟩
 | agg h1 _ ih => simp only [SV.full] at hf; simp only [AV.beq]; exact qcC h1 hf ih
 | tup h1 _ ih => simp only [SV.full] at hf; simp only [AV.beq]; exact qcC h1 hf ih
 | _ => simp [AV.beq]
def AlR (C : Cx) (h : SH) : List (Nat × Nat) -> List (Nat × Nat) -> Prop
 | [], [] => True
 | (i, p) :: l, (j, β) :: m => i = j /\ (∃ o I, h.get p = some o /\ C.ρ p = some I /\ I.cap.isSome /\ I.β = β) /\ AlR C h l m
 | _, _ => False
theorem AlR.filter {C : Cx} {h : SH} (f : Nat -> Bool) : ∀ {l m : List (Nat × Nat)}, AlR C h l m -> AlR C h (l.filter fun x => f x.1) (m.filter fun x => f x.1) := by
 intro l; induction l with
 | nil => intro m hm; cases m with
  | nil => exact hm
  | cons => exact hm.elim
 | cons x l ih =>
  intro m hm; obtain ⟨i, p⟩ := x
  cases m with
  | nil => exact hm.elim
  | cons y m =>
   obtain ⟨j, β⟩ := y; obtain ⟨rfl, h1, h2⟩ := hm; simp only [List.filter_cons]
   cases f i
   · simpa using ih h2
   · simpa using ⟨rfl, h1, ih h2⟩
theorem AlR.mono {C C' : Cx} {h h' : SH} : ∀ {l m : List (Nat × Nat)}, AlR C h l m -> (∀ x ∈ l, ∀ o I, h.get x.2 = some o -> C.ρ x.2 = some I -> I.cap.isSome -> ∃ o', h'.get x.2 = some o' /\ C'.ρ x.2 = some I) -> AlR C' h' l m := by
 intro l; induction l with
 | nil => intro m hm _; cases m with
  | nil => exact hm
  | cons => exact hm.elim
 | cons x l ih =>
  intro m hm hk; obtain ⟨i, p⟩ := x
  cases m with
  | nil => exact hm.elim
  | cons y m =>
   obtain ⟨j, β⟩ := y; obtain ⟨rfl, ⟨o, I, g1, g2, g3, g4⟩, h2⟩ := hm; obtain ⟨o', k1, k2⟩ := hk (i, p) List.mem_cons_self o I g1 g2 g3; exact ⟨rfl, ⟨o', I, k1, k2, g3, g4⟩, ih h2 (fun x hx => hk x (List.mem_cons_of_mem _ hx))⟩
theorem AlR.left {C : Cx} {h : SH} : ∀ {l m : List (Nat × Nat)}, AlR C h l m -> ∀ x ∈ l, ∃ o I, h.get x.2 = some o /\ C.ρ x.2 = some I /\ I.cap.isSome /\ ∃ y ∈ m, y.2 = I.β := by
 intro l; induction l with
 | nil => intro m _ x hx; cases hx
 | cons x l ih =>
  intro m hm y hy; obtain ⟨i, p⟩ := x
  cases m with
  | nil => exact hm.elim
  | cons z m =>
   obtain ⟨j, β⟩ := z; obtain ⟨rfl, ⟨o, I, g1, g2, g3, g4⟩, h2⟩ := hm; rcases List.mem_cons.1 hy with rfl | hy
   · exact ⟨o, I, g1, g2, g3, (i, β), List.mem_cons_self, g4.symm⟩
   · obtain ⟨o, I, q1, q2, q3, w, hw, q4⟩ := ih h2 y hy; exact ⟨o, I, q1, q2, q3, w, List.mem_cons_of_mem _ hw, q4⟩
theorem AlR.right {C : Cx} {h : SH} : ∀ {l m : List (Nat × Nat)}, AlR C h l m -> ∀ y ∈ m, ∃ x ∈ l, ∃ o I, h.get x.2 = some o /\ C.ρ x.2 = some I /\ I.cap.isSome /\ I.β = y.2 := by
 intro l; induction l with
 | nil => intro m hm y hy; cases m with
  | nil => cases hy
  | cons => exact hm.elim
 | cons x l ih =>
  intro m hm y hy; obtain ⟨i, p⟩ := x
  cases m with
  | nil => exact hm.elim
  | cons z m =>
   obtain ⟨j, β⟩ := z; obtain ⟨rfl, ⟨o, I, g1, g2, g3, g4⟩, h2⟩ := hm; rcases List.mem_cons.1 hy with rfl | hy
   · exact ⟨(i, p), List.mem_cons_self, o, I, g1, g2, g3, g4⟩
   · obtain ⟨w, hw, q⟩ := ih h2 y hy; exact ⟨w, List.mem_cons_of_mem _ hw, q⟩
def Stb (tab : Tab) (ops : Array Oper) (C : Cx) (h : SH) (a : AH) (x : Nat × T AV × AV) (rs : List Nat) : Prop :=
 ∃ o a0 h1, ops[x.1]? = some o /\ (cls tab o = .pure \/ cls tab o = .read) /\ lkd o.op = true /\ AV.beq x.2.2 x.2.2 = true /\ qaH tab x.2.1 a0 o = .ok (x.2.2, h1) /\
  ∀ β ob, a0.get β = some ob -> C.Fz β = some ob \/ (a.get β = some ob /\ ∃ p ∈ rs, ∃ o' I, h.get p = some o' /\ C.ρ p = some I /\ I.cap.isSome /\ I.β = β)
theorem Stb.mono {tab : Tab} {ops : Array Oper} {C C' : Cx} {h h' : SH} {a a' : AH} {x : Nat × T AV × AV} {rs : List Nat} (hx : Stb tab ops C h a x rs) (hf : ∀ i o, C.Fz i = some o -> C'.Fz i = some o)
   (hk : ∀ p ∈ rs, ∀ o I, h.get p = some o -> C.ρ p = some I -> I.cap.isSome -> a'.get I.β = a.get I.β /\ ∃ o', h'.get p = some o' /\ C'.ρ p = some I) : Stb tab ops C' h' a' x rs := by
 obtain ⟨o, a0, h1, g1, g2, g3, gb, g4, g5⟩ := hx; refine ⟨o, a0, h1, g1, g2, g3, gb, g4, fun β ob hb => ?_⟩; rcases g5 β ob hb with q | ⟨q, p, hp, o', I, q1, q2, q3, rfl⟩
 · exact .inl (hf _ _ q)
 · obtain ⟨k1, o2, k2, k3⟩ := hk p hp o' I q1 q2 q3; exact .inr ⟨by rw [k1]; exact q, p, hp, o2, I, k2, k3, q3, rfl⟩
structure SimD (tab : Tab) (ops : Array Oper) (C : Cx) (d : SD) (e : DS) : Prop where
 F : FS C d.s.ts e.ts
 H : HS tab C d.s.h e.h
 anc : d.anc = e.anc
 al : AlR C d.s.h d.allocs e.allocs
 rd : ∀ x ∈ e.reads, ∃ rs, (x.1, rs) ∈ d.reads /\ Stb tab ops C d.s.h e.h x rs
structure Prog (C : Cx) (d : SD) (e : DS) (new : List Ev) (C' : Cx) (d' : SD) (e' : DS) : Prop where
 log : d'.s.log = d.s.log ++ new
 tr : Tr C new C'
 grow : Grow e.h e'.h
 keep : Keep C d.s.h e.h new C' d'.s.h e'.h
end Go.Sy
namespace Go.Sy
open Go.Am Go.RowKit
universe u v
variable [Inhabited DrP]
section
variable {tab : Tab} {cfg : Cfg} {ops : Array Oper} {nt : Nat}
theorem qdX (ts : T AV) (o : Oper) (v : AV) : qaU nt ts o v = putT nt ts o.dst v := by
 unfold qaU putT
 cases o.dst <;> rfl
theorem Prog.refl {C C' : Cx} {d d' : SD} {e e' : DS} (hl : d'.s.log = d.s.log) (hh : d'.s.h = d.s.h) (he : e'.h = e.h) (hc : C' = C) : Prog C d e [] C' d' e' := by
 subst hc; exact ⟨by simp [hl], Tr.refl _, by rw [he]; exact Grow.refl _, by rw [hh, he]; exact Keep.same _ _ _ _⟩
open Classical in
theorem qqg (htab : cfg.tab = tab) {C : Cx} {d : SD} {e : DS} {i : Nat} {o : Oper} {K : SD -> Prop} (h : qn5 cfg ops nt i o d K) (S : SimD tab ops C d e) (hi : ops[i]? = some o) :
  ∃ r d' C', qcs tab ops nt i o e = .ok r /\ K d' /\ SimD tab ops C' d' (r.getD e) /\ Prog C d e [] C' d' (r.getD e) := by
 obtain ⟨s, anc, reads, allocs⟩ := d; obtain ⟨hF, H, hanc, hal, hrd⟩ := S; simp only at hF H hanc hal hrd; simp only [qn5] at h; rw [htab] at h; obtain ⟨hok, h⟩ := qaB h; obtain ⟨w, s1, h1, hw, hF1, eh, el⟩ := qgK h hF; clear h; subst hanc; unfold qcs
 rw [rb (rc hok)]; simp only; rw [rb hw]
 cases w with
 | false =>
  simp only [Bool.not_false, cond_true] at h1; have h2 := qeT (qbv h1); obtain ⟨s2, k1, k2, k3, k4⟩ := qfA (v := .tup []) h2 hF1 (.pure (.tup rfl (fun i c v hc => by simp at hc))); refine ⟨_, _, C, rfl, k1, ⟨?_, ?_, rfl, ?_, ?_⟩, Prog.refl ?_ ?_ rfl rfl⟩
  · simp only [Option.getD_some]; rw [qdX]; exact k2
  · simp only [Option.getD_some]; rw [k3, eh]; exact H
  · simp only [Option.getD_some]; rw [k3, eh]; exact hal
  · simp only [Option.getD_some]; rw [k3, eh]; exact hrd
  · simp only; rw [k4, el]
  · simp only; rw [k3, eh]
 | true =>
  simp only [Bool.not_true, cond_false] at h1; simp only [Bool.not_true, Bool.false_eq_true, if_false]; have Hs : HS tab C s1.h e.h := by rw [eh]; exact H
  have look : ∀ (hc : cls tab o = .pure \/ cls tab o = .read), (qb8 (qaW e.anc o) fun an => qeS (e.anc.set i (some an)) fun anc => match s1 with
    | ⟨ts, h, log⟩ => qb8 (qkX ts o) fun rs => ck (rs.all fun b => allocs.all fun x => !(Nat.beq x.2 b)) (sop tab cfg.view ⟨ts, ⟨h.next, qjM h rs⟩, []⟩ o fun v s' => ck (s'.log.isEmpty && v.full) (putS nt ⟨ts, h, log⟩ o.dst v fun s' => K ⟨s', anc, (i, rs) :: reads, allocs⟩))) ->
      ∃ d' v, K d' /\ (∀ v' hx', qaH tab e.ts { t := .e, next := 0 } o = .ok (v', hx') -> v' = v /\ hx'.next = 0) /\ qaH tab e.ts (qa5 e.h e.allocs) o = .ok (v, qa5 e.h e.allocs) /\
        ∀ rd', (rd' = e.reads \/ rd' = (i, e.ts, v) :: e.reads) -> SimD tab ops C d' { e with ts := qaU nt e.ts o v, anc := e.anc.set i (some (qaW e.anc o)), reads := rd' } /\ Prog C ⟨s, e.anc, reads, allocs⟩ e [] C d' { e with ts := qaU nt e.ts o v, anc := e.anc.set i (some (qaW e.anc o)), reads := rd' } := by
    intro hc h; have h := qeT (qbv h); obtain ⟨ts, hh, log⟩ := s1; simp only at h eh el hF1 Hs; subst eh; have h := qbv h; generalize qkX ts o = rs at h
    obtain ⟨hdis, h⟩ := qaB h; obtain ⟨a0, hn0, hg0⟩ := cutA H.wf (fun i => (∃ ob, C.Fz i = some ob) \/ ∃ p ∈ rs, ∃ o' I, s.h.get p = some o' /\ C.ρ p = some I /\ I.cap.isSome /\ I.β = i); have hpart : Part a0 e.h := by
      intro j ob hj; rw [hg0] at hj; split at hj
      · exact hj
      · cases hj
    have H0 : HS tab C ⟨s.h.next, qjM s.h rs⟩ a0 := by
      refine Hs.part rfl (fun p o' hp => ?_) hpart hn0 (fun j ob hj => ?_) (fun p o' I hp hI hcap => ?_)
      · rw [qjN] at hp; split at hp
        · exact hp
        · cases hp
      · rw [hg0, if_pos (.inl ⟨ob, hj⟩)]; exact H.fz j ob hj
      · rw [qjN] at hp; split at hp
        · rename_i hm; rw [hg0, if_pos (.inr ⟨p, hm, o', I, hp, hI, hcap, rfl⟩)]
        · cases hp
    obtain ⟨hlk, sv, v, hk, hp, hv⟩ := qq6 (s := ⟨ts, ⟨s.h.next, qjM s.h rs⟩, []⟩) hF1 H0 hc (fun sv s1 hk => by have := (qaB hk).1; simp only [Bool.and_eq_true] at this; simpa using this.1) h; obtain ⟨hfull, hk⟩ := qaB hk; simp only [Bool.and_eq_true] at hfull; have hbeq := qqj hv hfull.2; obtain ⟨s2, k1, k2, k3, k4⟩ := qfA hk hF1 hv; have hhid : Part a0 (qa5 e.h e.allocs) := by
      intro β ob hβ; rw [qar, if_neg]
      · exact hpart β ob hβ
      · rintro ⟨y, hy, rfl⟩; obtain ⟨x, hx, ox, Ix, x1, x2, x3, x4⟩ := hal.right y hy; rw [hg0] at hβ; split at hβ
        · rename_i hP; rcases hP with ⟨ob', hP⟩ | ⟨p, hpm, op, Ip, p1, p2, p3, p4⟩
          · have := H.dj x.2 ox Ix x1 x2 x3; rw [x4, hP] at this; cases this
          · have := H.inj p x.2 op ox Ip Ix p1 x1 p2 x2 p3 x3 (by rw [p4, x4]); have h5 := List.all_eq_true.1 (List.all_eq_true.1 hdis p hpm) x hx; rw [this] at h5; simp at h5
        · cases hβ
    refine ⟨_, v, k1, fun v' hx' hp' => ?_, qeq hc hlk hhid hp, fun rd' hrd' => ⟨⟨?_, ?_, rfl, ?_, ?_⟩, Prog.refl ?_ ?_ rfl rfl⟩⟩
    · have h5 := qeq hc hlk (h0 := { t := .e, next := 0 }) (h := a0) (fun j ob hj => by cases hj) hp'; have h6 := qdj ⟨by rcases hc with e | e <;> rw [e] <;> simp, by rcases hc with e | e <;> rw [e] <;> simp⟩ hp'; rw [hp] at h5
      cases h5; exact ⟨rfl, by rw [h6]⟩
    · simp only; rw [qdX]; exact k2
    · simp only; rw [k3]; exact H
    · simp only; rw [k3]; exact hal
    · simp only; rw [k3]; intro x hx; rcases hrd' with rfl | rfl
      · obtain ⟨rs', g1, g2⟩ := hrd x hx; exact ⟨rs', List.mem_cons_of_mem _ g1, g2⟩
      · rcases List.mem_cons.1 hx with rfl | hx
        · refine ⟨rs, List.mem_cons_self, o, a0, _, hi, hc, hlk, hbeq, hp, fun β ob hβ => ?_⟩; have hβ' := hpart β ob hβ; rw [hg0] at hβ; split at hβ
          · rename_i hP; rcases hP with ⟨ob', hP⟩ | hP
            · have := H.fz _ _ hP; rw [hβ'] at this; cases this; exact .inl hP
            · exact .inr ⟨hβ', hP⟩
          · cases hβ
        · obtain ⟨rs', g1, g2⟩ := hrd x hx; exact ⟨rs', List.mem_cons_of_mem _ g1, g2⟩
    · simp only; rw [k4]; exact el
    · simp only; rw [k3]
  cases hcl : cls tab o with
  | eff =>
    rw [hcl] at h1; simp only at h1 ⊢; exact ⟨none, _, C, rfl, h1, ⟨hF1, Hs, rfl, by simp only; rw [eh]; exact hal, by simp only; rw [eh]; exact hrd⟩, Prog.refl el eh rfl rfl⟩
  | pure =>
    obtain ⟨d', v, g1, g2, g3, g4⟩ := look (.inl hcl) (by rw [hcl] at h1; exact h1); simp only
    cases hp : qaH tab e.ts { t := .e, next := 0 } o with
    | ok r =>
      obtain ⟨v', hx'⟩ := r; obtain ⟨rfl, hn⟩ := g2 v' hx' hp; simp only; rw [rb (rc (by rw [hn]; rfl))]; obtain ⟨q1, q2⟩ := g4 e.reads (.inl rfl); exact ⟨_, d', C, rfl, g1, q1, q2⟩
    | no _ =>
      simp only; rw [g3]; obtain ⟨q1, q2⟩ := g4 _ (.inr rfl); exact ⟨_, d', C, rfl, g1, q1, q2⟩
  | read =>
    obtain ⟨d', v, g1, g2, g3, g4⟩ := look (.inr hcl) (by rw [hcl] at h1; exact h1); simp only; rw [g3]; obtain ⟨q1, q2⟩ := g4 _ (.inr rfl); exact ⟨_, d', C, rfl, g1, q1, q2⟩
  | alloc =>
    rw [hcl] at h1; simp only at h1 ⊢; have h2 := qeT (qbv h1); clear h1 look; obtain ⟨ts, hh, log⟩ := s1; simp only at h2 eh el hF1 Hs; subst eh; obtain ⟨sv, v, so, ao, I, m1, m2, m3, m4, m5, m6⟩ := qq7 (s := ⟨ts, s.h, []⟩) (a := e.h) hF1 hcl h2; clear h2; simp only [St.new] at m1; obtain ⟨_, m1⟩ := qaB m1; obtain ⟨q1, q2⟩ := H.new (ao := ao) (o := so) I m3 (fun hle => m6 _ _ hle (by rw [AH.get_new, if_pos rfl])); obtain ⟨s2, k1, k2, k3, k4⟩ := qfA (C := C.put s.h.next I) m1 (FS.le q1 hF1) (m5 _ q1 (zz5 _ _ _)); rw [rb (m2 { t := .e, next := e.h.next } rfl)]; simp only; rw [rb (rc (by simp)), rb (ro (show AH.get _ _ = some ao from by rw [AH.get_new, if_pos rfl]))]; have hnew : ∀ p o', s.h.get p = some o' -> (s.h.new so).get p = some o' := by
      intro p o' hp; obtain ⟨J, hJ, _⟩ := H.obj p o' hp; have := H.lt p J hJ; rw [SH.get_new, if_neg (by omega)]; exact hp
    have hkeep : ∀ p o' J, s.h.get p = some o' -> C.ρ p = some J -> J.cap.isSome -> (e.h.new ao).get J.β = e.h.get J.β := by
      intro p o' J hp hJ hc; obtain ⟨b, hb⟩ := (H.at_ hp hJ).live hc; have := H.wf _ _ hb; rw [AH.get_new, if_neg (by omega)]
    refine ⟨_, _, C.put s.h.next I, rfl, k1, ⟨?_, ?_, rfl, ?_, ?_⟩, ⟨?_, q1.tr, ?_, ?_⟩⟩
    · simp only [Option.getD_some]; rw [qdX]; exact k2
    · simp only [Option.getD_some]; rw [k3]; exact q2
    · simp only [Option.getD_some]; rw [k3]; refine ⟨rfl, ⟨so, I, by rw [SH.get_new, if_pos rfl], zz5 _ _ _, m4, m3⟩, hal.mono fun x hx o' J hp hJ hc => ⟨o', hnew _ _ hp, q1.1 _ _ hJ⟩⟩
    · simp only [Option.getD_some]; rw [k3]; intro x hx; obtain ⟨rs, g1, g2⟩ := hrd x hx; exact ⟨rs, g1, g2.mono q1.2 (fun p hp o' J hp hJ hc => ⟨hkeep p o' J hp hJ hc, o', hnew _ _ hp, q1.1 _ _ hJ⟩)⟩
    · simp only [List.append_nil]; rw [k4]; exact el
    · exact Grow.new _ _
    · simp only [Option.getD_some]; rw [k3]; exact Keep.new H _ _ q1 (qdL H _)
end
end Go.Sy
namespace Go.Sy
open Go.Am Go.RowKit
universe u v
variable [Inhabited DrP]
section
variable {P : Program} {tab : Tab} {cfg : Cfg} {ops : Array Oper} {nt : Nat} {rec : SM -> (SV -> St -> Prop) -> Prop}
theorem Prog.trans {C C' C'' : Cx} {d d' d'' : SD} {e e' e'' : DS} {l m : List Ev} (p : Prog C d e l C' d' e') (q : Prog C' d' e' m C'' d'' e'') (H : ∀ i o, C'.Fz i = some o -> e'.h.get i = some o) (H' : ∀ i o, C''.Fz i = some o -> e''.h.get i = some o) : Prog C d e (l ++ m) C'' d'' e'' :=
 ⟨by rw [q.log, p.log, List.append_assoc], p.tr.trans q.tr, p.grow.trans q.grow, p.keep.trans q.keep q.tr.fz H H'⟩
theorem qs6 (htab : cfg.tab = tab) : ∀ (l : List Oper) (k : Nat) (d : SD) (e : DS) (C : Cx) (K : SD -> Prop), (∀ j o, l[j]? = some o -> ops[k + j]? = some o) -> qoK cfg ops nt k l d K -> SimD tab ops C d e ->
  ∃ e' d' C', qbp tab ops nt k l e = .ok e' /\ K d' /\ SimD tab ops C' d' e' /\ Prog C d e [] C' d' e' := by
 intro l; induction l with
 | nil =>
  intro k d e C K _ h S; exact ⟨e, d, C, rfl, h, S, Prog.refl rfl rfl rfl rfl⟩
 | cons o l ih =>
  intro k d e C K hl h S; have hi := hl 0 o rfl; have hl' : ∀ j o, l[j]? = some o -> ops[k + 1 + j]? = some o := fun j o' hj => by
    have := hl (j + 1) o' (by simpa using hj); rwa [show k + 1 + j = k + (j + 1) from by omega]
  simp only [qoK, S.anc] at h; simp only [qbp]
  cases hr : qa0 e.anc k o
  · rw [hr] at h; exact ih (k + 1) d e C K hl' h S
  · rw [hr] at h; simp only [cond_true] at h ⊢; obtain ⟨r, d1, C1, g1, g2, g3, g4⟩ := qqg htab h S (by simpa using hi); rw [rb g1]; obtain ⟨e', d', C', q1, q2, q3, q4⟩ := ih (k + 1) d1 _ C1 K hl' g2 g3; refine ⟨e', d', C', ?_, q2, q3, ?_⟩
    · cases r <;> exact q1
    · have := g4.trans q4 g3.H.fz q3.H.fz; simpa using this
theorem EffR.mono {ts : T AV} {h0 : AH} {o : Oper} {Θ Θ' : AV -> AH -> Prop} (h : EffR P tab ts h0 o Θ) (hi : ∀ v h1, h0.next <= h1.next -> Θ v h1 -> Θ' v h1) : EffR P tab ts h0 o Θ' := by
 rcases h with ⟨v, h1, k1, k2, k3⟩ | ⟨c', f, g, first, captured, args, fn, body, k1, k2, k3, k4, k5, k6, k7⟩
 · exact .inl ⟨v, h1, k1, k2, hi _ _ k2 k3⟩
 · exact .inr ⟨c', f, g, first, captured, args, fn, body, k1, k2, k3, k4, k5, k6, k7.mono fun v h1 ⟨a, b⟩ => ⟨a, hi _ _ a b⟩⟩
theorem qoS {h : AH} : ∀ {l : List (Nat × T AV × AV)}, (∀ x ∈ l, ∃ o h1, ops[x.1]? = some o /\ qaH tab x.2.1 h o = .ok (x.2.2, h1) /\ AV.beq x.2.2 x.2.2 = true) -> reread tab ops h l = .ok () := by
 intro l; induction l with
 | nil => intro _; rfl
 | cons x l ih =>
  intro hx; obtain ⟨i, ts, v⟩ := x; obtain ⟨o, h1, g1, g2, g3⟩ := hx _ List.mem_cons_self; simp only at g1 g2 g3; simp only [reread]; rw [rb (ro g1), rb g2]; simp only; rw [rb (rc g3)]; exact ih fun y hy => hx y (List.mem_cons_of_mem _ hy)
theorem qhQ : ∀ (log : List Ev) (s : SV) (b : Nat), (∀ e ∈ log, e.id ≠ b) -> (s = .own b \/ s = .eptr b 1 0 \/ s = .ptr b 0) -> qcB log s = s := by
 intro log; induction log with
 | nil => intro s b _ _; rfl
 | cons e l ih =>
  intro s b hb hs; have h1 := hb e List.mem_cons_self; have : s.on e = s := by
   rcases hs with rfl | rfl | rfl <;> cases e <;> simp only [Ev.id] at h1 <;> simp only [SV.on] <;> first | rfl | (rw [qa4 (fun h => h1 h.symm)]; rfl)
  simp only [qcB, this]; exact ih s b (fun e' he => hb e' (List.mem_cons_of_mem _ he)) hs
theorem Tr.same {C C' : Cx} {log : List Ev} (hT : Tr C log C') {p : Nat} {I : BI} (hI : C.ρ p = some I) (hc : I.cap.isSome) (hm : ∀ e ∈ log, e.id ≠ p) : C'.ρ p = some I := by
 obtain ⟨c, hc'⟩ := Option.isSome_iff_exists.1 hc; have h1 := hT.val _ _ (.own hI hc'); rw [qhQ log _ p hm (.inl rfl)] at h1; have h2 := hT.val _ _ (.eptr (i := 1) (off := 0) hI hc); rw [qhQ log _ p hm (.inr (.inl rfl))] at h2; obtain ⟨β, len, sz, cap⟩ := I; simp only at h1 h2 hc'; subst hc'; generalize hv1 : AV.sl β 0 len c = v1 at h1
 generalize hv2 : AV.ptr β (1 * sz + 0) = v2 at h2
 cases h1 with
 | pure h => cases h
 | own0 hJ hc => cases hv1
 | own hJ hc =>
  rename_i J c2
  cases h2 with
  | pure h => cases h
  | eptr hJ' hc2 =>
   rw [hJ] at hJ'
   cases hJ'
   cases hv1; simp only [AV.ptr.injEq] at hv2; rw [hJ]; obtain ⟨β', len', sz', cap'⟩ := J; simp only at hc hv2 ⊢; subst hc; have : sz = sz' := by omega
   rw [this]
theorem qos (o : SO) : ∀ (log : List Ev), ∃ o', logO (some o) log = some o' /\ ∀ {C C' : Cx} {I : BI} {a a' : AH}, Tr C log C' -> a'.get I.β = a.get I.β -> SimO tab C I o a -> SimO tab C' I o' a' := by
 intro log
 cases o with
 | cells cs t =>
  have : ∀ (log : List Ev) (cs : List SV), logO (some (.cells cs t)) log = some (.cells (cs.map (qcB log)) t) := by
   intro log; induction log with
   | nil => intro cs; simp [logO]; exact (List.map_id'' (fun _ => rfl) cs).symm
   | cons e l ih => intro cs; simp only [logO, Option.map_some, SO.on, ih, qe3, List.map_map]; rfl
  refine ⟨_, this log cs, fun hT hg ho => ?_⟩; obtain ⟨g1, ca, sz, g2, g3, g4⟩ := ho; refine ⟨g1, ca, sz, by rw [hg]; exact g2, ⟨by simpa using g3.1, fun i s v hs hv => ?_⟩, g4⟩; rw [List.getElem?_map] at hs; obtain ⟨s0, h0, rfl⟩ := Option.map_eq_some_iff.1 hs; exact hT.val _ _ (g3.2 i s0 v h0 hv)
 | arr X L enc t =>
  have : ∀ (log : List Ev), logO (some (.arr X L enc t)) log = some (.arr X L enc t) := by
   intro log; induction log with
   | nil => rfl
   | cons e l ih => simp only [logO, Option.map_some, SO.on, ih]
  refine ⟨_, this log, fun {C C' I a a'} hT hg ho => ?_⟩; obtain ⟨h1, h2, h3, h4, h5⟩ := ho; refine ⟨h1, h2, h3, h4, ?_⟩
  cases hcap : I.cap with
  | none => rw [hcap] at h5; exact h5
  | some c =>
   rw [hcap] at h5; obtain ⟨ca, ext, bk, g1, g2, g3, g4, g5⟩ := h5; refine ⟨ca, ext, bk, by rw [hg]; exact g1, g2, g3, g4, fun i x j v hx hv => ?_⟩; obtain ⟨u, k1, k2⟩ := g5 i x j v hx hv; exact ⟨u, k1, k2.mono hT.fz⟩
end
end Go.Sy
namespace Go.Sy
open Go.Am Go.RowKit
universe u v
variable [Inhabited DrP]
section
variable {P : Program} {tab : Tab} {cfg : Cfg} {ops : Array Oper} {nt : Nat} {rec : SM -> (SV -> St -> Prop) -> Prop}
theorem qm4 {p : Nat} : ∀ {l : List Ev}, p ∈ qcy l -> ∃ e ∈ l, e.id = p := by
 intro l; induction l with
 | nil => intro h; cases h
 | cons e l ih =>
  intro h
  cases e with
  | kill b =>
   rcases List.mem_cons.1 h with rfl | h
   · exact ⟨_, List.mem_cons_self, rfl⟩
   · obtain ⟨e, h1, h2⟩ := ih h; exact ⟨e, List.mem_cons_of_mem _ h1, h2⟩
  | mod b =>
   rcases List.mem_cons.1 h with rfl | h
   · exact ⟨_, List.mem_cons_self, rfl⟩
   · obtain ⟨e, h1, h2⟩ := ih h; exact ⟨e, List.mem_cons_of_mem _ h1, h2⟩
  | frz b X L enc => obtain ⟨e, h1, h2⟩ := ih h; exact ⟨e, List.mem_cons_of_mem _ h1, h2⟩
theorem qoB {log : List Ev} {b : Nat} (h : (!(memN b (log.map Ev.id))) = true) : ∀ e ∈ log, e.id ≠ b := by
 intro e he hb; have : memN b (log.map Ev.id) = true := memN_iff.2 (List.mem_map.2 ⟨e, he, hb⟩); rw [this] at h; cases h
theorem HS.bare {C C' : Cx} {h h' : SH} {a h1 : AH} {log : List Ev} {hid hidA : List (Nat × Nat)} (H : HS tab C h a) (hal : AlR C h hid hidA) (hT : Tr C log C') (H' : HS tab C' h' h1) (hG : Grow (qa5 a hidA) h1) (hm : ∀ x ∈ hid, ∀ e ∈ log, e.id ≠ x.2) :
   HS tab C' (qfl h' h log hid) (qa9 h1 a hidA) /\ (∀ i b, h1.get i = some b -> (qa9 h1 a hidA).get i = h1.get i) /\ (∀ y ∈ hidA, h1.get y.2 = none) /\ (∀ x ∈ hid, ∀ o I, h.get x.2 = some o -> C.ρ x.2 = some I -> I.cap.isSome -> (qa9 h1 a hidA).get I.β = a.get I.β /\ ∃ o', (qfl h' h log hid).get x.2 = some o' /\ C'.ρ x.2 = some I) := by
 have hlt : ∀ y ∈ hidA, y.2 < a.next := by
   intro y hy; obtain ⟨x, hx, o, I, g1, g2, g3, g4⟩ := hal.right y hy; obtain ⟨b, hb⟩ := (H.at_ g1 g2).live g3; rw [<- g4]; exact H.wf _ _ hb
 have hnone : ∀ y ∈ hidA, h1.get y.2 = none := by
   intro y hy
   cases hz : h1.get y.2 with
   | none => rfl
   | some b =>
     rcases hG.old _ _ hz with ⟨o0, h0⟩ | hge
     · rw [qar, if_pos ⟨y, hy, rfl⟩] at h0; cases h0
     · rw [qat] at hge; have := hlt y hy; omega
 have hlive : ∀ i b, h1.get i = some b -> (qa9 h1 a hidA).get i = h1.get i := by
   intro i b hi; rw [qbe, if_neg]; rintro ⟨y, hy, rfl⟩; rw [hnone y hy] at hi; cases hi
 have hhid : ∀ x ∈ hid, ∀ o I, h.get x.2 = some o -> C.ρ x.2 = some I -> I.cap.isSome -> (qa9 h1 a hidA).get I.β = a.get I.β /\ h1.get I.β = none /\ ∃ o', (qfl h' h log hid).get x.2 = some o' /\ C'.ρ x.2 = some I /\ SimO tab C' I o' (qa9 h1 a hidA) := by
   intro x hx o I ho hI hc; obtain ⟨o1, I1, g1, g2, g3, y, hy, g4⟩ := hal.left x hx; rw [hI] at g2; cases g2; have e1 : (qa9 h1 a hidA).get I.β = a.get I.β := by rw [qbe, if_pos ⟨y, hy, g4⟩]
   obtain ⟨o', k1, k2⟩ := qos o log; refine ⟨e1, by rw [<- g4]; exact hnone y hy, o', ?_, hT.same hI hc (hm x hx), k2 hT e1 (H.at_ ho hI)⟩; rw [qco, if_pos ⟨x, hx, rfl⟩, ho]; exact k1
 refine ⟨⟨?_, ?_, ?_, ?_, ?_, ?_⟩, hlive, hnone, fun x hx o I ho hI hc => ?_⟩
 · intro p o hp; rw [qco] at hp; split at hp
   · rename_i hex; obtain ⟨x, hx, rfl⟩ := hex; obtain ⟨o1, I1, g1, g2, g3, _⟩ := hal.left x hx; obtain ⟨_, _, o', k1, k2, k3⟩ := hhid x hx o1 I1 g1 g2 g3; rw [qco, if_pos ⟨x, hx, rfl⟩, hp] at k1
     cases k1; exact ⟨I1, k2, k3⟩
   · obtain ⟨I, hI, ho⟩ := H'.obj p o hp; refine ⟨I, hI, ?_⟩; by_cases hc : I.cap.isSome
     · obtain ⟨b, hb⟩ := ho.live hc; exact ho.congr (hlive _ _ hb)
     · cases o with
       | cells cs t => exact absurd ho.1 hc
       | arr X L enc t =>
        obtain ⟨g1, g2, g3, g4, g5⟩ := ho; refine ⟨g1, g2, g3, g4, ?_⟩
        cases hcap : I.cap with
        | none => rw [hcap] at g5; exact g5
        | some c => rw [hcap] at hc; simp at hc
 · have key : ∀ p q o' I J, (∃ x ∈ hid, x.2 = p) -> h'.get q = some o' -> C'.ρ p = some I -> C'.ρ q = some J -> I.cap.isSome -> J.cap.isSome -> I.β ≠ J.β := by
     rintro p q o' I J ⟨x, hx, rfl⟩ hq hI hJ hc hc' e; obtain ⟨o1, I1, g1, g2, g3, _⟩ := hal.left x hx; obtain ⟨_, k0, _, _, k2, _⟩ := hhid x hx o1 I1 g1 g2 g3; rw [hI] at k2; cases k2; obtain ⟨b, hb⟩ := (H'.at_ hq hJ).live hc'; rw [<- e, k0] at hb; cases hb
   intro p q o o' I J hp hq hI hJ hc hc' e; rw [qco] at hp hq; split at hp
   · rename_i h3; split at hq
     · rename_i h4; obtain ⟨x, hx, rfl⟩ := h3; obtain ⟨z, hz, rfl⟩ := h4; obtain ⟨o1, I1, g1, g2, g3, _⟩ := hal.left x hx; obtain ⟨_, _, _, _, k2, _⟩ := hhid x hx o1 I1 g1 g2 g3; obtain ⟨o2, I2, q1, q2, q3, _⟩ := hal.left z hz; obtain ⟨_, _, _, _, k3, _⟩ := hhid z hz o2 I2 q1 q2 q3; rw [hI] at k2; cases k2; rw [hJ] at k3; cases k3; exact H.inj _ _ o1 o2 I J g1 q1 g2 q2 g3 q3 e
     · exact absurd e (key p q o' I J h3 hq hI hJ hc hc')
   · split at hq
     · rename_i h4; exact absurd e.symm (key q p o J I h4 hp hJ hI hc' hc)
     · exact H'.inj p q o o' I J hp hq hI hJ hc hc' e
 · intro i o hi; have := H'.fz i o hi; rw [hlive i o this]; exact this
 · intro p o I hp hI hc; rw [qco] at hp; split at hp
   · rename_i h3; obtain ⟨x, hx, rfl⟩ := h3; obtain ⟨o1, I1, g1, g2, g3, _⟩ := hal.left x hx; obtain ⟨_, k0, _, _, k2, _⟩ := hhid x hx o1 I1 g1 g2 g3; rw [hI] at k2; cases k2
     cases hz : C'.Fz I.β with
     | none => rfl
     | some b =>
       have := H'.fz _ _ hz; rw [k0] at this; cases this
   · exact H'.dj p o I hp hI hc
 · intro p I hI; rw [qmt]; exact H'.lt p I hI
 · intro i o hi; rw [qbK]; rw [qbe] at hi; split at hi
   · have := H.wf i o hi; have h2 := hG.next; rw [qat] at h2; omega
   · exact H'.wf i o hi
 · obtain ⟨k1, _, o', k2, k3, _⟩ := hhid x hx o I ho hI hc; exact ⟨k1, o', k2, k3⟩
end
end Go.Sy
namespace Go.Sy
open Go.Am Go.RowKit
universe u v
variable [Inhabited DrP]
section
variable {P : Program} {tab : Tab} {cfg : Cfg} {ops : Array Oper} {nt : Nat} {rec : SM -> (SV -> St -> Prop) -> Prop}
theorem qua (htab : cfg.tab = tab) (hrec : qh2 P tab rec) (hcon : ∀ g C, cfg.con g = some C -> ConOK P tab g C) {C : Cx} {d : SD} {e : DS} {i : Nat} {o : Oper} {K : SD -> Prop} (h : effS cfg rec ops nt i o d K) (S : SimD tab ops C d e) :
   EffD P tab ops nt i o e fun e' => ∃ d' C' new, K d' /\ SimD tab ops C' d' e' /\ Prog C d e new C' d' e' := by
 obtain ⟨s, anc, reads, allocs⟩ := d; obtain ⟨hF, H, hanc, hal, hrd⟩ := S; simp only at hF H hanc hal hrd; subst hanc; simp only [effS] at h; obtain ⟨hok, h⟩ := qaB h; obtain ⟨w, s1, h1, hw, hF1, eh, el⟩ := qgK h hF; clear h; obtain ⟨rfl, h1⟩ := qaB h1; have h := qbv (qbv (qeT (qbv h1))); clear h1; obtain ⟨ts, hh, log⟩ := s1; simp only at h eh el hF1; subst eh; have halh := hal.filter (fun j => !(memN j (qaW e.anc o))); generalize hhd : (allocs.filter fun x => !(memN x.1 (qaW e.anc o))) = hid at h halh
 generalize hhA : (e.allocs.filter fun x => !(memN x.1 (qaW e.anc o))) = hidA at halh
 have hnot : ∀ p o' I, s.h.get p = some o' -> C.ρ p = some I -> I.cap.isSome -> (¬ ∃ x ∈ hid, x.2 = p) -> ¬ ∃ y ∈ hidA, y.2 = I.β := by
   rintro p o' I hp hI hc hn ⟨y, hy, hyb⟩; obtain ⟨x, hx, ox, Ix, x1, x2, x3, x4⟩ := halh.right y hy; exact hn ⟨x, hx, (H.inj p x.2 o' ox I Ix hp x1 hI x2 hc x3 (by rw [x4, hyb])).symm⟩
 have hfz : ∀ j ob, C.Fz j = some ob -> ¬ ∃ y ∈ hidA, y.2 = j := by
   rintro j ob hj ⟨y, hy, rfl⟩; obtain ⟨x, hx, ox, Ix, x1, x2, x3, x4⟩ := halh.right y hy; have := H.dj x.2 ox Ix x1 x2 x3; rw [x4, hj] at this; cases this
 have Hh : HS tab C (qiw s.h hid) (qa5 e.h hidA) := by
   refine H.part (qmR _ _) (fun p o' hp => ?_) (fun j ob hj => ?_) (qat _ _) (fun j ob hj => ?_) (fun p o' I hp hI hc => ?_)
   · rw [qeU] at hp; split at hp
     · cases hp
     · exact hp
   · rw [qar] at hj; split at hj
     · cases hj
     · exact hj
   · rw [qar, if_neg (hfz j ob hj)]; exact H.fz j ob hj
   · rw [qeU] at hp; split at hp
     · cases hp
     · rename_i hn; rw [qar, if_neg (hnot p o' I hp hI hc hn)]
 have heff := qlP (s := ⟨ts, qiw s.h hid, []⟩) (ta := e.ts) htab hrec hcon h hF1 Hh; refine ⟨hok, hw, ?_⟩; rw [hhA]; refine heff.mono ?_; rintro v h1 hle ⟨sv, s', hk, ⟨⟨C', new, e1, e2, e3, e4, e5, e6⟩, e7⟩⟩; obtain ⟨ts', h', log'⟩ := s'; simp only [List.nil_append] at e1 hk e4 e5; subst e1; obtain ⟨hck, hk⟩ := qaB hk; simp only [Bool.and_eq_true, List.all_eq_true] at hck; obtain ⟨hck1, hck2⟩ := hck; obtain ⟨B1, B2, B3, B4⟩ := H.bare halh e2 e4 e7 (fun x hx => qoB (hck2 x hx)); obtain ⟨s2, k1, k2, k3, k4⟩ := qfA (s := ⟨ts', qfl h' s.h log' hid, log ++ log'⟩) hk e5 e3; have hread : ∀ x ∈ e.reads.filter (fun x => !(memN x.1 (qaW e.anc o))), ∃ rs, (x.1, rs) ∈ reads.filter (fun x => !(memN x.1 (qaW e.anc o))) /\ Stb tab ops C s.h e.h x rs /\
     ∀ p ∈ rs, (∀ e ∈ log', e.id ≠ p) /\ (h'.get p).isSome /\ ¬ ∃ y ∈ hid, y.2 = p := by
   intro x hx; obtain ⟨hx1, hx2⟩ := List.mem_filter.1 hx; obtain ⟨rs, g1, g2⟩ := hrd x hx1; have hm : (x.1, rs) ∈ reads.filter (fun x => !(memN x.1 (qaW e.anc o))) := List.mem_filter.2 ⟨g1, hx2⟩; refine ⟨rs, hm, g2, fun p hp => ?_⟩; have h5 := hck1 _ hm p hp; refine ⟨qoB h5.1.1, h5.1.2, ?_⟩; rintro ⟨y, hy, rfl⟩; have h6 := h5.2 y hy; simp at h6
 have hkeep : ∀ p o' I, s.h.get p = some o' -> C.ρ p = some I -> I.cap.isSome -> (∀ e ∈ log', e.id ≠ p) -> (h'.get p).isSome -> (¬ ∃ y ∈ hid, y.2 = p) ->
     (qa9 h1 e.h hidA).get I.β = e.h.get I.β /\ ∃ o', (qfl h' s.h log' hid).get p = some o' /\ C'.ρ p = some I := by
   intro p o' I hp hI hc hm hs hn; obtain ⟨k, _⟩ := e6 p o' I (by simp only; rw [qeU, if_neg hn]; exact hp) hI hc (fun hmm => by
     obtain ⟨e', he', hid'⟩ := qm4 hmm; exact hm e' he' hid')
   rw [qar, if_neg (hnot p o' I hp hI hc hn)] at k; obtain ⟨o2, ho2⟩ := Option.isSome_iff_exists.1 hs; refine ⟨?_, o2, by rw [qco, if_neg hn]; exact ho2, e2.same hI hc hm⟩; rw [qbe, if_neg (hnot p o' I hp hI hc hn)]; exact k
 have hstb : ∀ x ∈ e.reads.filter (fun x => !(memN x.1 (qaW e.anc o))), ∃ rs, (x.1, rs) ∈ reads.filter (fun x => !(memN x.1 (qaW e.anc o))) /\ Stb tab ops C' (qfl h' s.h log' hid) (qa9 h1 e.h hidA) x rs := by
   intro x hx; obtain ⟨rs, g1, g2, g3⟩ := hread x hx; exact ⟨rs, g1, g2.mono e2.fz fun p hp o' I hpo hI hc => hkeep p o' I hpo hI hc (g3 p hp).1 (g3 p hp).2.1 (g3 p hp).2.2⟩
 refine ⟨qoS fun x hx => ?_, _, C', log', k1, ⟨?_, ?_, rfl, ?_, ?_⟩, ⟨?_, e2, ?_, ?_⟩⟩
 · obtain ⟨rs, g1, g2, g3⟩ := hread x hx; obtain ⟨ox, a0, hx1, q1, q2, q3, qb, q4, q5⟩ := g2; refine ⟨ox, _, q1, qeq q2 q3 (h := qa5 (qa9 h1 e.h hidA) hidA) (fun β ob hβ => ?_) q4, qb⟩; rcases q5 β ob hβ with hz | ⟨hz, p, hp, o', I, p1, p2, p3, rfl⟩
   · rw [qar, if_neg (hfz β ob hz), qbe, if_neg (hfz β ob hz)]; exact e4.fz _ _ (e2.fz _ _ hz)
   · obtain ⟨r1, r2, r3⟩ := g3 p hp; rw [qar, if_neg (hnot p o' I p1 p2 p3 r3), (hkeep p o' I p1 p2 p3 r1 r2 r3).1]; exact hz
 · simp only; rw [qdX]; exact k2
 · simp only; rw [k3]; exact B1
 · simp only; rw [k3]; exact halh.mono fun x hx o' I hp hI hc => (B4 x hx o' I hp hI hc).2
 · simp only; rw [k3]; exact hstb
 · simp only; rw [k4]; simp only; rw [el]
 · refine ⟨?_, fun j ob hj => ?_⟩
   · simp only; rw [qbK]; have := e7.next; rw [qat] at this; exact this
   · simp only at hj; rw [qbe] at hj; split at hj
     · exact .inl ⟨ob, hj⟩
     · rcases e7.old j ob hj with ⟨o0, h0⟩ | hge
       · rw [qar] at h0; split at h0
         · cases h0
         · exact .inl ⟨o0, h0⟩
       · rw [qat] at hge; exact .inr hge
 · simp only; rw [k3]; intro p o' I hp hI hc hm; by_cases hn : ∃ y ∈ hid, y.2 = p
   · obtain ⟨y, hy, rfl⟩ := hn; obtain ⟨q1, q2⟩ := B4 y hy o' I hp hI hc; exact ⟨q1, .inl q2⟩
   · obtain ⟨q1, q2⟩ := e6 p o' I (by simp only; rw [qeU, if_neg hn]; exact hp) hI hc hm; rw [qar, if_neg (hnot p o' I hp hI hc hn)] at q1; refine ⟨by rw [qbe, if_neg (hnot p o' I hp hI hc hn)]; exact q1, ?_⟩; rcases q2 with ⟨o2, r1, r2⟩ | r
     · exact .inl ⟨o2, by simp only; rw [qco, if_neg hn]; exact r1, r2⟩
     · exact .inr r
theorem qlJ (htab : cfg.tab = tab) (hrec : qh2 P tab rec) (hcon : ∀ g C, cfg.con g = some C -> ConOK P tab g C) : qke P tab cfg rec := by
 have main : ∀ (ops : Array Oper) (nt n : Nat) (d : SD) (e : DS) (C : Cx) (K : St -> Prop), qnV cfg rec ops nt n d K -> SimD tab ops C d e ->
   TodoR P tab ops nt (fun sF => ∃ s' C' new, K s' /\ s'.log = d.s.log ++ new /\ Tr C new C' /\ HS tab C' s'.h sF.h /\ FS C' s'.ts sF.ts /\ Grow e.h sF.h /\ Keep C d.s.h e.h new C' s'.h sF.h) n e := by
  intro ops nt n; induction n with
  | zero => intro d e C K h; exact h.elim
  | succ n ih =>
   intro d e C K h S; simp only [qnV] at h; obtain ⟨e1, d1, C1, g1, g2, g3, g4⟩ := qs6 htab ops.toList 0 d e C _ (fun j o hj => by simpa using hj) h S; refine ⟨e1, g1, ?_⟩; rw [g3.anc] at g2; split at g2
   · rename_i hc; obtain ⟨_, hk⟩ := qaB g2; exact .inl ⟨hc, d1.s, C1, [], hk, g4.log, g4.tr, g3.H, g3.F, g4.grow, g4.keep⟩
   · rename_i c o hc; refine .inr ⟨c, o, hc, ?_⟩; obtain ⟨q1, q2, q3⟩ := qua htab hrec hcon g2 g3; refine ⟨q1, q2, q3.mono fun v h1 _ hΘ => ⟨hΘ.1, ?_⟩⟩; obtain ⟨d2, C2, new, k1, k2, k3⟩ := hΘ.2; refine TodoR.mono ?_ _ _ (ih d2 _ C2 K k1 k2); rintro sF ⟨s', C', new', r1, r2, r3, r4, r5, r6, r7⟩; have p := g4.trans k3 g3.H.fz k2.H.fz; simp only [List.nil_append] at p; exact ⟨s', C', new ++ new', r1, by rw [r2, p.log, List.append_assoc], p.tr.trans r3, r4, r5, p.grow.trans r6, p.keep.trans r7 r3.fz k2.H.fz r4.fz⟩
   · exact g2.elim
 intro ops nt n s K ta a C h hF H; exact main ops nt n ⟨s, .e, [], []⟩ { ts := ta, h := a, anc := .e, reads := [], allocs := [] } C K h ⟨hF, H, rfl, trivial, fun x hx => by cases hx⟩
theorem qvY (pr : PrOK P tab) (htab : cfg.tab = tab) (hcon : ∀ g C, cfg.con g = some C -> ConOK P tab g C) (n : Nat) : qh2 P tab (wp cfg n) :=
 qrh pr htab hcon (fun _ hrec => qlJ htab hrec hcon) n
end
end Go.Sy
namespace Go.Sy
open Go.Am Go.RowKit
universe u v
variable [Inhabited DrP]
section
variable (cfg : Cfg)
def resM (e v : SV) (s : St) : Prop :=
 match s with
 | ⟨_, h, _⟩ => match e, v with
  | .tup es, .tup vs => argM cfg 1000 es vs ⟨[], h, []⟩ fun _ => True
  | .tup _, _ => False
  | e, v => argM cfg 1000 [e] [v] ⟨[], h, []⟩ fun _ => True
end
section
variable {P : Program} {tab : Tab} {cfg : Cfg}
theorem qta (htab : cfg.tab = tab) {e v : SV} {s : St} (h : resM cfg e v s) {C : Cx} {a : AH} {av : AV} (H : HS tab C s.h a) (hv : SimV C v av) : ∃ Fz' : Nat -> Option AO, (∀ i o, C.Fz i = some o -> Fz' i = some o) /\ (∀ i o, Fz' i = some o -> a.get i = some o) /\ SimP Fz' e av := by
 obtain ⟨ts, hh, log⟩ := s; have one : ∀ (e v : SV), argM cfg 1000 [e] [v] ⟨[], hh, []⟩ (fun _ => True) -> SimV C v av -> ∃ Fz' : Nat -> Option AO, (∀ i o, C.Fz i = some o -> Fz' i = some o) /\ (∀ i o, Fz' i = some o -> a.get i = some o) /\ SimP Fz' e av := by
   intro e v h hv; obtain ⟨C1, new, s1, g1, g2, g3, g4, g5, _, g7⟩ := qkj (ta := .e) htab 1000 _ _ [av] _ C _ h (SimL.cons hv SimL.nil) (fun t s hs => by simp [look] at hs) H; exact ⟨C1.Fz, g2.fz, g3.fz, g7.2 0 e av rfl rfl⟩
 simp only [resM] at h; split at h
 · rename_i es vs; obtain ⟨us, rfl, hs⟩ := qml hv; obtain ⟨C1, new, s1, g1, g2, g3, g4, g5, _, g7⟩ := qkj (ta := .e) htab 1000 _ _ us _ C _ h hs (fun t s hs => by simp [look] at hs) H; exact ⟨C1.Fz, g2.fz, g3.fz, .tup g7.1 g7.2⟩
 · exact h.elim
 · exact one _ _ h hv
end
end Go.Sy
namespace Go.Sy
open Go.Am Go.RowKit
universe u v
variable [Inhabited DrP]
def isT (v : SV) (_ : St) : Prop := match v with | .bool b => b = true | _ => False
section
variable {P : Program} {tab : Tab} {cfg : Cfg}
end
end Go.Sy
namespace Go.Sy
open Go.Am Go.RowKit
universe u v
variable [Inhabited DrP]
section
variable {P : Program} {tab : Tab}
theorem AGo.shut (ok : TabOK P tab) {f : FuncId} {fn : Func} {body : Code} {avs : List AV} {Θ : AV -> AH -> Prop} (hfn : tab.fns.get f = some fn) (hb : fn.body = some body) (hgo : AGo P { fr := AFrame.enter fn f body avs .normal, cs := [], h := emptyH } Θ)
   (hargs : ∀ E E', qai E avs = qai E' avs) (hv : ∀ v h', Θ v h' -> ∀ E E', conc E v = conc E' v) (a : AH) : AGo P { fr := AFrame.enter fn f body avs .normal, cs := [], h := a } fun v a' => a' = a /\ ∃ h', Θ v h' := by
 intro D E K base frC csC w hR hB; have hP := ok.fns f fn hfn; obtain ⟨q1, q2, q3⟩ := hR.all E (Agree.refl _ _); have hR0 : Rel (fun _ => False) E (KS.old w.heap.size) { fr := AFrame.enter fn f body avs .normal, cs := [], h := emptyH } base frC csC w := by
   refine ⟨fun E' _ => ⟨qlK E' _ w (fun b h => h) (fun b h => h), ?_, q3⟩, fun i h => h.elim, hR.wf⟩; rw [<- q2]; simp only; rw [<- qbi hP hb, <- qbi hP hb, hargs E' E]
 obtain ⟨v, h', hΘ, fr', w', v', E', D', s1, s2, s3, s4, s5, s6, s7, s8, s9, s10⟩ := hgo _ E _ base frC csC w hR0 (fun b hb => ⟨q1.kb b (hB b hb).1, (hB b hb).2⟩); refine ⟨v, a, ⟨rfl, h', hΘ⟩, fr', w', v', E, D, s1, s2, s3, fun E'' he => ⟨?_, ?_⟩, Agree.refl _ _, fun _ h => h, hR.dom, ⟨s8.os, s8.tape, s8.output, s8.size, fun b hb' => s8.block b (q1.kb b hb'), s8.drawn⟩, Nat.le_refl _, fun i hi => .inl hi⟩
 · obtain ⟨g1, _, _⟩ := hR.all E'' he; refine ⟨fun i o hi => ?_, g1.nk, g1.inj, g1.dom, fun b hb' => Nat.lt_of_lt_of_le (g1.kb b hb') s8.size, g1.im, g1.k0⟩; obtain ⟨c, h1, h2⟩ := g1.obj i o hi; refine ⟨c, ?_, h2⟩; rw [s8.block _ (Array.getElem?_eq_some_iff.1 h1).1]; exact h1
 · rw [<- (s4 E' (Agree.refl _ _)).2]; exact hv v h' hΘ _ _
theorem ConOK.shut (pr : PrOK P tab) {f : FuncId} {C : Con} (h : ∀ fn body, tab.fns.get f = some fn -> fn.body = some body -> ∀ y, C.pre y -> ∀ avs Fz, PL Fz (C.args y) avs -> (∀ E E', qai E avs = qai E' avs) /\ ∃ Θ : AV -> AH -> Prop, AGo P { fr := AFrame.enter fn f body avs .normal, cs := [], h := emptyH } Θ /\ ∀ v h', Θ v h' -> (∀ E E', conc E v = conc E' v) /\ SimP (fun _ => none) (C.res y) v) : ConOK P tab f C := by
 intro fn body hfn hb y hy Fz a avs hfz hwf hlen hav; obtain ⟨h1, Θ, h2, h3⟩ := h fn body hfn hb y hy avs Fz ⟨hlen, hav⟩; refine (AGo.shut pr.ok hfn hb h2 h1 (fun v h' hv => (h3 v h' hv).1) a).mono ?_; rintro v a' ⟨rfl, h', hv⟩; exact ⟨Fz, fun _ _ h => h, hfz, (h3 v h' hv).2.mono (fun _ _ h => by cases h), Grow.refl _, fun _ _ h => h, hwf, fun _ _ h => .inl h⟩
theorem AGo.run (pr : PrOK P tab) {n : Nat} {m : AM} {outs : List (AV × AH)} (h : Am.run tab n m = .ok outs) : AGo P m fun v h' => (v, h') ∈ outs := by
 intro D E K base frC csC w hR hB; exact (qoV pr.ok pr.ext (fun sub hsub => qfr pr.ok hsub pr.ext pr.mix) n).1 m outs h D E K base frC csC w hR
end
end Go.Sy
namespace Go.Sy
open Go.Am Go.RowKit
universe u v
variable [Inhabited DrP]
def absV (n : Nat) : Value -> AV
 | .bool b => .bool b
 | .int k z => .int k z
 | .string s => .str s.data.toList
 | .pointer none => .nilp
 | .slice none 0 0 => .nils
 | .slice (some ⟨b, off, none⟩) (len + 1) cap => if b < n then .sl b off (len + 1) (.lit cap) else .raw (.slice (some ⟨b, off, none⟩) (len + 1) cap)
 | .map none => .nilm
 | .nilFunc => .nilf
 | v => .raw v
def absA (n : Nat) : Value -> AV
 | .agg cs => .agg (cs.toList.map (absV n))
 | v => absV n v
theorem qjf {n : Nat} {E : Env} (hE : ∀ i, i < n -> E.blk i = i) (v : Value) : conc E (absV n v) = v := by
 unfold absV; split <;> try (simp [conc]; done)
 split
 · rename_i b off len cap hb; simp [conc, hE _ hb, Cap.val]
 · simp [conc]
theorem qhC {n : Nat} {E : Env} (hE : ∀ i, i < n -> E.blk i = i) (l : List Value) : qai E (l.map (absV n)) = l := by
 induction l with
 | nil => rfl
 | cons v l ih => simp [qjf hE, ih]
theorem qgz {n : Nat} {E : Env} (hE : ∀ i, i < n -> E.blk i = i) (v : Value) : conc E (absA n v) = v := by
 unfold absA; split
 · simp [conc, qhC hE]
 · exact qjf hE _
theorem qfo {n : Nat} {E : Env} (hE : ∀ i, i < n -> E.blk i = i) (l : List Value) : qai E (l.map (absA n)) = l := by
 induction l with
 | nil => rfl
 | cons v l ih => simp [qgz hE, ih]
def rowO (tab : Tab) (w : World) (b : Nat) : Option AO :=
 match w.heap[b]? with
 | some (.cells arr e _) => some (.cells (arr.toList.map (absV w.heap.size)) e ((tab.siz.get e).getD 1) false .ro)
 | _ => none
def rowH (tab : Tab) (w : World) : AH := ofFn w.heap.size (rowO tab w)
theorem qjV {tab : Tab} {w : World} {b : Nat} {o : AO} (h : rowO tab w b = some o) : ∃ arr e fz, w.heap[b]? = some (.cells arr e fz) /\ o = .cells (arr.toList.map (absV w.heap.size)) e ((tab.siz.get e).getD 1) false .ro := by
 unfold rowO at h; split at h
 · rename_i arr e fz hb
   cases h; exact ⟨arr, e, fz, hb, rfl⟩
 · cases h
theorem qge {tab : Tab} {w : World} {b : Nat} : (rowH tab w).get b = rowO tab w b := by
 unfold rowH; rw [qdi]; split
 · rfl
 · rename_i hb; unfold rowO; rw [Array.getElem?_eq_none (by omega)]
theorem qes (tab : Tab) (w : World) {E : Env} (hE : ∀ i, i < w.heap.size -> E.blk i = i) : HOK E (rowH tab w) (KS.old w.heap.size) w := by
 have hro : ∀ i o, (rowH tab w).get i = some o -> o.ro /\ i < w.heap.size := by
   intro i o hi; rw [qge] at hi; obtain ⟨arr, e, fz, hb, rfl⟩ := qjV hi; exact ⟨trivial, (Array.getElem?_eq_some_iff.1 hb).1⟩
 refine ⟨fun i o hi => ?_, fun i o hi hr => absurd (hro i o hi).1 hr, fun i j oi oj hi hj hr => absurd (hro i oi hi).1 hr, fun i o hi => (hro i o hi).2, fun b hb => hb, fun i o hi _ => ?_, fun b hb => hb⟩
 · rw [qge] at hi; obtain ⟨arr, e, fz, hb, rfl⟩ := qjV hi; have hlt := (Array.getElem?_eq_some_iff.1 hb).1; refine ⟨_, by rw [hE i hlt]; exact hb, arr, fz, rfl, ⟨[], by simp [qhC hE]⟩, by simp, trivial⟩
 · show E.blk i < w.heap.size
   rw [hE i (hro i o hi).2]; exact (hro i o hi).2
theorem qh5 (n : Nat) (a : Addr) (c : Nat) : absV n (.slice (some a) 0 c) = .raw (.slice (some a) 0 c) := by
 unfold absV; split <;> simp_all
theorem qrT {n b off len cap : Nat} (h : len ≠ 0) (hb : b < n) : absV n (.slice (some ⟨b, off, none⟩) len cap) = .sl b off len (.lit cap) := by
 cases len with
 | zero => exact absurd rfl h
 | succ len => simp [absV, hb]
theorem qiJ {tab : Tab} {w : World} {X : Type} {L : List X} {enc : X -> List SV} {b off len cap : Nat} {arr : Array Value} {e : TypeId} {fz : Nat × Nat} {sz : Nat} (hb : w.heap[b]? = some (.cells arr e fz))
   (h0 : 0 < sz) (hn : ∀ x ∈ L, (enc x).length = sz) (hl : off + L.length * sz <= arr.size) (hlen : len = L.length) (hcap : len <= cap)
   (hc : ∀ (i : Nat) x (j : Nat) v, L[i]? = some x -> (enc x)[j]? = some v -> ∃ u, arr[off + i * sz + j]? = some u /\ SimP (rowH tab w).get v (absV w.heap.size u)) :
   SimP (rowH tab w).get (.lst X L enc) (absV w.heap.size (.slice (some ⟨b, off, none⟩) len cap)) := by
 have hlt := (Array.getElem?_eq_some_iff.1 hb).1; have hg : (rowH tab w).get b = some (.cells (arr.toList.map (absV w.heap.size)) e ((tab.siz.get e).getD 1) false .ro) := by
   rw [qge]; unfold rowO; rw [hb]
 subst hlen; by_cases hL : L.length = 0
 · rw [hL, qh5]; exact .lst0 hL (.inr (.inr ⟨_, _, rfl⟩))
 rw [qrT hL hlt]; refine .lst b off (.lit cap) _ e sz false .ro (fun i j => absV w.heap.size (arr[off + i * sz + j]?.getD (.bool false))) ⟨_, false, hg, fun h => by cases h⟩ h0 (by simpa using hl) (fun i x hx => hn x (List.mem_of_getElem? hx)) hcap ?_ ?_
 · intro i x j v hx hv; obtain ⟨u, hu, _⟩ := hc i x j v hx hv; simp [hu]
 · intro i x j v hx hv; obtain ⟨u, hu, hs⟩ := hc i x j v hx hv; simp only [hu, Option.getD_some]; exact hs
section
variable {P : Program} {tab : Tab} {cfg : Cfg}
end
end Go.Sy
namespace Go.Sy
open Go.Am Go.RowKit
universe u v
variable [Inhabited DrP]
abbrev eqI (a b : Int) : Prop := a = b
theorem br_iff {b : Bool} {p q : Prop} : br b p q ↔ (b = true -> p) /\ (b = false -> q) := by
 cases b <;> simp [br]
theorem brI {b : Bool} {p q : Prop} (h : b = true -> p) (k : b = false -> q) : br b p q := br_iff.2 ⟨h, k⟩
theorem ck_iff {b : Bool} {p : Prop} : ck b p ↔ b = true /\ p := by
 cases b <;> simp [ck]
theorem so_iff {α : Type u} {x : Option α} {k : α -> Prop} : so x k ↔ ∃ a, x = some a /\ k a := by
 cases x <;> simp [so]
theorem qhs (n : Int) : nn n = decide (0 <= n) := by
 rw [Bool.eq_iff_iff]
 cases n with
 | ofNat a => simp only [nn, decide_eq_true_eq, true_iff]; exact Int.natCast_nonneg a
 | negSucc a => simp only [nn, decide_eq_true_eq, Bool.false_eq_true, false_iff]; omega
theorem qcv (n : Int) : inR .i64 n = true ↔ -9223372036854775808 <= n /\ n <= 9223372036854775807 := by
 simp only [inR, loI, hiI, qaX, Bool.and_eq_true, decide_eq_true_eq]; constructor <;> rintro ⟨h1, h2⟩ <;> constructor <;> (try simp only [Int.ofNat_eq_natCast] at *) <;> omega
def askY {C : Con} (cfg : C.Y -> Cfg) (n : Nat) (f : FuncId) : Prop := ∀ y : C.Y, C.pre y -> ask (cfg y) n f (C.args y) (resM (cfg y) (C.res y))
theorem qae {P : Program} {tab : Tab} {C : Con} {cfg : C.Y -> Cfg} (pr : PrOK P tab) (htab : ∀ y, (cfg y).tab = tab) (hcon : ∀ y g C', (cfg y).con g = some C' -> ConOK P tab g C') {n : Nat} {f : FuncId} (h : askY cfg n f) : ConOK P tab f C := by
 refine ConOK.of fun fn body hfn hb y hy C0 a avs hρ H hlen hav => ?_
 have h1 := h y hy; unfold ask at h1; rw [htab y, hfn] at h1; simp only [hb] at h1; refine (qvY pr (htab y) (hcon y) n f fn body (C.args y) ⟨0, []⟩ a C0 avs _ hfn hb h1 H ⟨hlen, fun i s v hs hv => .pure (hav i s v hs hv)⟩).mono ?_; rintro v a' ⟨sv, s', C', k1, k2, k3, k4⟩; exact ⟨sv, s', C', fun C1 a1 av H1 hv1 => qta (htab y) k1 H1 hv1, k2, k3, k4⟩
theorem qab {P : Program} {tab : Tab} {con : FuncId -> Option Con} {k : FuncId} {c : Con} (hc : ConOK P tab k c) (h : ∀ g C, con g = some C -> ConOK P tab g C) : ∀ g C, (bif Nat.beq g k then some c else con g) = some C -> ConOK P tab g C := by
 intro g C hg
 cases hb : Nat.beq g k
 · rw [hb] at hg; exact h g C hg
 · rw [hb] at hg
   cases hg; rw [Nat.eq_of_beq_eq_true hb]; exact hc
theorem qeK {P : Program} {tab : Tab} : ∀ g C, (none : Option Con) = some C -> ConOK P tab g C := fun _ _ h => by cases h
end Go.Sy
namespace Go.Sy
open Go.Am Go.RowKit
universe u v
variable [Inhabited DrP]
inductive Rd (w : World) (p : Nat -> Prop) (arg : Bool) : SV -> Value -> Prop
 | bool (b : Bool) : Rd w p arg (.bool b) (.bool b)
 | int (k : IntKind) (n : Int) : Rd w p arg (.int k n) (.int k n)
 | str (s : List UInt8) : Rd w p arg (.str s) (.string ⟨s.toArray⟩)
 | nilp : Rd w p arg .nilp (.pointer none)
 | wp (a : Addr) : Rd w p arg (.wp a) (.pointer (some a))
 | nils : Rd w p arg .nils (.slice none 0 0)
 | nilm : Rd w p arg .nilm (.map none)
 | nilf : Rd w p arg .nilf .nilFunc
 | any (v : Value) : Rd w p arg .any v
 | fn {f : FuncId} {xs ys : List SV} (h : arg = true) (v : Value) : Rd w p arg (.fn f xs ys) v
 | rptr {cs : List SV} {off : Nat} (h : arg = true) (v : Value) : Rd w p arg (.rptr cs off) v
 | lstn {X : Type} {L : List X} {enc : X -> List SV} (h0 : L.length = 0) : Rd w p arg (.lst X L enc) (.slice none 0 0)
 | lst0 {X : Type} {L : List X} {enc : X -> List SV} (h : arg = true) (h0 : L.length = 0) (a : Option Addr) (c : Nat) : Rd w p arg (.lst X L enc) (.slice a 0 c)
 | lst {X : Type} {L : List X} {enc : X -> List SV} (b off cap : Nat) (arr : Array Value) (e : TypeId) (fz : Nat × Nat) (sz : Nat) (u : Nat -> Nat -> Value)
  (hp : p b) (hb : w.heap[b]? = some (.cells arr e fz)) (hs : 0 < sz) (hl : off + L.length * sz <= arr.size) (hn : ∀ (i : Nat) x, L[i]? = some x -> (enc x).length = sz) (hc : L.length <= cap)
  (h1 : ∀ (i : Nat) x (j : Nat) v, L[i]? = some x -> (enc x)[j]? = some v -> arr[off + i * sz + j]? = some (u i j)) (h2 : ∀ (i : Nat) x (j : Nat) v, L[i]? = some x -> (enc x)[j]? = some v -> Rd w p arg v (u i j)) : Rd w p arg (.lst X L enc) (.slice (some ⟨b, off, none⟩) L.length cap)
 | agg {cs : List SV} {vs : Array Value} (h1 : cs.length = vs.size) (h2 : ∀ (i : Nat) c v, cs[i]? = some c -> vs[i]? = some v -> Rd w p arg c v) : Rd w p arg (.agg cs) (.agg vs)
 | tup {cs : List SV} {vs : Array Value} (h1 : cs.length = vs.size) (h2 : ∀ (i : Nat) c v, cs[i]? = some c -> vs[i]? = some v -> Rd w p arg c v) : Rd w p arg (.tup cs) (.tuple vs)
def RdL (w : World) (p : Nat -> Prop) (arg : Bool) (l : List SV) (m : List Value) : Prop := l.length = m.length /\ ∀ (i : Nat) s v, l[i]? = some s -> m[i]? = some v -> Rd w p arg s v
theorem qhS {E : Env} {a : AH} {K : KS} {w : World} (H : HOK E a K w) {Fz : Nat -> Option AO} (hf : ∀ i o, Fz i = some o -> a.get i = some o) {p : Nat -> Prop} (hp : ∀ i o, Fz i = some o -> p (E.blk i)) {s : SV} {v : AV} (h : SimP Fz s v) : Rd w p true s (conc E v) := by
 induction h with
 | bool b => exact .bool b
 | int k n => exact .int k n
 | str s => exact .str s
 | nilp => exact .nilp
 | wp a => exact .wp a
 | nils => exact .nils
 | nilm => exact .nilm
 | nilf => exact .nilf
 | any v => exact .any _
 | lst0 h0 hv =>
  rcases hv with rfl | ⟨b, off, l, n, k, rfl⟩ | ⟨a, c, rfl⟩
  · exact .lstn h0
  · exact .lst0 rfl h0 _ _
  · exact .lst0 rfl h0 _ _
 | @lst X L enc b off cap cs e sz ext bk u hb hs hl hn hc h1 h2 ih =>
  obtain ⟨sz0, ext0, hb, hx0⟩ := hb; have hpb := hp _ _ hb; obtain ⟨arr, fz, hw, ⟨rest, hr⟩, hsz⟩ : ∃ arr fz, w.heap[E.blk b]? = some (.cells arr e fz) /\ (∃ rest, arr.toList = qai E cs ++ rest) /\ (if ext0 then arr.size = E.cap b * sz0 else arr.size = cs.length) := by
    obtain ⟨c, k1, arr, fz, rfl, k2, k3, _⟩ := H.obj _ _ (hf _ _ hb); exact ⟨arr, fz, k1, k2, k3⟩
  have hle : cs.length <= arr.size := by
    have := congrArg List.length hr; simp at this; omega
  simp only [conc]; refine .lst _ off _ arr e fz sz (fun i j => conc E (u i j)) hpb hw hs (by omega) hn ?_ ?_ ih
  · cases cap with
    | lit m => exact hc
    | tail k =>
     obtain ⟨g1, g2⟩ := hc; obtain ⟨g3, g4⟩ := hx0 g1; rw [g4, if_pos rfl, g3] at hsz; rw [g2] at hl; have h5 : (k + L.length) * sz <= E.cap b * sz := by rw [Nat.add_mul]; omega
     have := Nat.le_of_mul_le_mul_right h5 hs; show L.length <= E.cap b - k
     omega
  · intro i x j v hx hv; have h3 := h1 i x j v hx hv; rw [<- Array.getElem?_toList, hr]; have hlt : off + i * sz + j < (qai E cs).length := by
     simp; exact (List.getElem?_eq_some_iff.1 h3).1
    rw [List.getElem?_append_left hlt, qa1, h3]; rfl
 | rptr b base ca e sz ext bk u hb hl h1 _ ih => exact .rptr rfl _
 | fn h1 h2 _ _ ih3 ih4 => exact .fn rfl _
 | @agg cs vs h1 _ ih =>
  simp only [conc]; refine .agg (by simpa using h1) (fun i c v hc hv => ?_); simp only [List.getElem?_toArray, qa1] at hv; obtain ⟨u, hu, rfl⟩ := Option.map_eq_some_iff.1 hv; exact ih i c u hc hu
 | @tup cs vs h1 _ ih =>
  simp only [conc]; refine .tup (by simpa using h1) (fun i c v hc hv => ?_); simp only [List.getElem?_toArray, qa1] at hv; obtain ⟨u, hu, rfl⟩ := Option.map_eq_some_iff.1 hv; exact ih i c u hc hu
theorem qe9 {E : Env} {a : AH} {K : KS} {w : World} (H : HOK E a K w) {Fz : Nat -> Option AO} (hf : ∀ i o, Fz i = some o -> a.get i = some o) {s : SV} {v : AV} (h : SimP Fz s v) : Rd w (fun _ => True) true s (conc E v) := qhS H hf (fun _ _ _ => trivial) h
def absR (n m lo : Nat) : Value -> AV
 | .bool b => .bool b
 | .int k z => .int k z
 | .string s => .str s.data.toList
 | .pointer none => .nilp
 | .slice none 0 0 => .nils
 | .slice (some ⟨b, off, none⟩) (len + 1) cap => if n <= b /\ b < m then .sl (lo + (b - n)) off (len + 1) (.lit cap) else .raw (.slice (some ⟨b, off, none⟩) (len + 1) cap)
 | .map none => .nilm
 | .nilFunc => .nilf
 | v => .raw v
theorem qje {n m lo : Nat} {E : Env} (hE : ∀ b, n <= b -> b < m -> E.blk (lo + (b - n)) = b) (v : Value) : conc E (absR n m lo v) = v := by
 unfold absR; split <;> try (simp [conc]; done)
 split
 · rename_i b off len cap hb; simp [conc, hE _ hb.1 hb.2, Cap.val]
 · simp [conc]
theorem qmD {n m lo : Nat} {E : Env} (hE : ∀ b, n <= b -> b < m -> E.blk (lo + (b - n)) = b) (l : List Value) : qai E (l.map (absR n m lo)) = l := by
 induction l with
 | nil => rfl
 | cons v l ih => simp [qje hE, ih]
def SV.atom : SV -> Bool
 | .agg _ => false
 | .tup _ => false
 | _ => true
inductive Up (w : World) (n : Nat) : SV -> Value -> Prop
 | bool (b : Bool) : Up w n (.bool b) (.bool b)
 | int (k : IntKind) (z : Int) : Up w n (.int k z) (.int k z)
 | str (s : List UInt8) : Up w n (.str s) (.string ⟨s.toArray⟩)
 | nilp : Up w n .nilp (.pointer none)
 | nils : Up w n .nils (.slice none 0 0)
 | nilm : Up w n .nilm (.map none)
 | nilf : Up w n .nilf .nilFunc
 | any (v : Value) : Up w n .any v
 | lstn {X : Type} {L : List X} {enc : X -> List SV} (h0 : L.length = 0) : Up w n (.lst X L enc) (.slice none 0 0)
 | lst0 {X : Type} {L : List X} {enc : X -> List SV} (h0 : L.length = 0) (a : Option Addr) (c : Nat) : Up w n (.lst X L enc) (.slice a 0 c)
 | lst {X : Type} {L : List X} {enc : X -> List SV} (b off cap : Nat) (arr : Array Value) (e : TypeId) (fz : Nat × Nat) (sz : Nat) (u : Nat -> Nat -> Value)
  (hp : n <= b) (hb : w.heap[b]? = some (.cells arr e fz)) (hs : 0 < sz) (hl : off + L.length * sz <= arr.size) (hn : ∀ (i : Nat) x, L[i]? = some x -> (enc x).length = sz) (hc : L.length <= cap)
  (ha : ∀ (i : Nat) x (j : Nat) v, L[i]? = some x -> (enc x)[j]? = some v -> v.atom = true)
  (h1 : ∀ (i : Nat) x (j : Nat) v, L[i]? = some x -> (enc x)[j]? = some v -> arr[off + i * sz + j]? = some (u i j)) (h2 : ∀ (i : Nat) x (j : Nat) v, L[i]? = some x -> (enc x)[j]? = some v -> Up w n v (u i j)) : Up w n (.lst X L enc) (.slice (some ⟨b, off, none⟩) L.length cap)
 | agg {cs : List SV} {vs : Array Value} (h1 : cs.length = vs.size) (h2 : ∀ (i : Nat) c v, cs[i]? = some c -> vs[i]? = some v -> Up w n c v) : Up w n (.agg cs) (.agg vs)
 | tup {cs : List SV} {vs : Array Value} (h1 : cs.length = vs.size) (h2 : ∀ (i : Nat) c v, cs[i]? = some c -> vs[i]? = some v -> Up w n c v) : Up w n (.tup cs) (.tuple vs)
def newH (a : AH) (n : Nat) (w : World) : AH := ofFn (a.next + (w.heap.size - n)) fun i => if i < a.next then a.get i else
 match w.heap[n + (i - a.next)]? with
 | some (.cells arr e _) => some (.cells (arr.toList.map (absR n w.heap.size a.next)) e 1 false .cold)
 | _ => none
theorem qcj {a : AH} {n : Nat} {w : World} {i : Nat} (hi : i < a.next) : (newH a n w).get i = a.get i := by
 unfold newH; rw [qdi, if_pos (by omega), if_pos hi]
theorem ql6 {a : AH} {n : Nat} {w : World} {i : Nat} {o : AO} (hi : a.next <= i) (h : (newH a n w).get i = some o) :
   ∃ arr e fz, w.heap[n + (i - a.next)]? = some (.cells arr e fz) /\ o = .cells (arr.toList.map (absR n w.heap.size a.next)) e 1 false .cold := by
 unfold newH at h; rw [qdi] at h; split at h
 · rw [if_neg (by omega)] at h; split at h
   · rename_i arr e fz hb
     cases h; exact ⟨arr, e, fz, hb, rfl⟩
   · cases h
 · cases h
theorem qqB {a : AH} {n : Nat} {w : World} {b : Nat} {arr : Array Value} {e : TypeId} {fz : Nat × Nat} (hb : n <= b) (h : w.heap[b]? = some (.cells arr e fz)) :
  (newH a n w).get (a.next + (b - n)) = some (.cells (arr.toList.map (absR n w.heap.size a.next)) e 1 false .cold) := by
 have hlt := (Array.getElem?_eq_some_iff.1 h).1; unfold newH; rw [qdi, if_pos (by omega), if_neg (by omega), show n + (a.next + (b - n) - a.next) = b from by omega, h]
theorem qjY {n m lo : Nat} {Fz : Nat -> Option AO} {X : Type} {L : List X} {enc : X -> List SV} (h0 : L.length = 0) (p : Option Addr) (c : Nat) : SimP Fz (.lst X L enc) (absR n m lo (.slice p 0 c)) := by
 have : absR n m lo (.slice p 0 c) = .nils \/ absR n m lo (.slice p 0 c) = .raw (.slice p 0 c) := by
   unfold absR; split <;> simp_all
 rcases this with h | h
 · rw [h]; exact .lst0 h0 (.inl rfl)
 · rw [h]; exact .lst0 h0 (.inr (.inr ⟨_, _, rfl⟩))
theorem quU {a : AH} {n : Nat} {w : World} {Fz : Nat -> Option AO} (hF : ∀ i o, a.next <= i -> (newH a n w).get i = some o -> Fz i = some o) {s : SV} {v : Value} (h : Up w n s v) :
  (s.atom = true -> SimP Fz s (absR n w.heap.size a.next v)) /\ ∃ av, SimP Fz s av /\ ∀ E : Env, (∀ b, n <= b -> b < w.heap.size -> E.blk (a.next + (b - n)) = b) -> conc E av = v := by
 have key : ∀ {s : SV} {v : Value}, SimP Fz s (absR n w.heap.size a.next v) -> (s.atom = true -> SimP Fz s (absR n w.heap.size a.next v)) /\ ∃ av, SimP Fz s av /\ ∀ E : Env, (∀ b, n <= b -> b < w.heap.size -> E.blk (a.next + (b - n)) = b) -> conc E av = v :=
  fun {s v} h => ⟨fun _ => h, _, h, fun E hE => qje hE v⟩
 induction h with
 | bool b => exact key (.bool b)
 | int k z => exact key (.int k z)
 | str s => exact key (by simp only [absR]; exact .str s)
 | nilp => exact key .nilp
 | nils => exact key .nils
 | nilm => exact key .nilm
 | nilf => exact key .nilf
 | any v => exact key (.any _)
 | lstn h0 => exact key (.lst0 h0 (.inl rfl))
 | lst0 h0 p c => exact key (qjY h0 p c)
 | @lst X L enc b off cap arr e fz sz u hp hb hs hl hn hc ha h1 h2 ih =>
  apply key; have hlt := (Array.getElem?_eq_some_iff.1 hb).1; by_cases hL : L.length = 0
  · rw [hL]; exact qjY hL _ _
  obtain ⟨len, hlen⟩ : ∃ k, L.length = k + 1 := ⟨L.length - 1, by omega⟩; rw [hlen]; simp only [absR]; rw [if_pos ⟨hp, hlt⟩, <- hlen]; refine .lst _ off (.lit cap) _ e sz false .cold (fun i j => absR n w.heap.size a.next (u i j)) ⟨1, false, hF _ _ (by omega) (qqB hp hb), fun h => by cases h⟩ hs (by simpa using hl) hn hc ?_ ?_
  · intro i x j v hx hv; have h3 := h1 i x j v hx hv; rw [List.getElem?_map, Array.getElem?_toList, h3]; rfl
  · intro i x j v hx hv; exact (ih i x j v hx hv).1 (ha i x j v hx hv)
 | @agg cs vs h1 h2 ih =>
  refine ⟨fun h => (by cases h), ?_⟩; have hc : ∀ i : Nat, ∃ av, ∀ c v, cs[i]? = some c -> vs[i]? = some v -> SimP Fz c av /\ ∀ E : Env, (∀ b, n <= b -> b < w.heap.size -> E.blk (a.next + (b - n)) = b) -> conc E av = v := by
    intro i
    cases hi : cs[i]? with
    | none => exact ⟨.nilp, fun c v h => by cases h⟩
    | some c =>
      cases hj : vs[i]? with
      | none => exact ⟨.nilp, fun c v _ h => by cases h⟩
      | some v =>
       obtain ⟨_, av, g1, g2⟩ := ih i c v hi hj; exact ⟨av, fun c' v' e1 e2 => by cases e1; cases e2; exact ⟨g1, g2⟩⟩
  obtain ⟨f, hf⟩ := Classical.axiomOfChoice hc; refine ⟨.agg ((List.range vs.size).map f), .agg (by simp [h1]) fun i c v hi hv => ?_, fun E hE => ?_⟩
  · have hi2 : i < vs.size := by rw [<- h1]; exact (List.getElem?_eq_some_iff.1 hi).1
    rw [List.getElem?_map, List.getElem?_range hi2] at hv
    cases hv; exact (hf i c _ hi (Array.getElem?_eq_getElem hi2)).1
  · simp only [conc, Value.agg.injEq]; apply Array.ext_getElem?
    intro i; rw [List.getElem?_toArray, qa1, List.getElem?_map]; by_cases hi : i < vs.size
    · have hi2 : i < cs.length := by omega
      rw [List.getElem?_range hi, Array.getElem?_eq_getElem hi]; simp only [Option.map_some]; rw [(hf i _ _ (List.getElem?_eq_getElem hi2) (Array.getElem?_eq_getElem hi)).2 E hE]
    · rw [Array.getElem?_eq_none (by omega), List.getElem?_eq_none (by simp; omega)]; rfl
 | @tup cs vs h1 h2 ih =>
  refine ⟨fun h => (by cases h), ?_⟩; have hc : ∀ i : Nat, ∃ av, ∀ c v, cs[i]? = some c -> vs[i]? = some v -> SimP Fz c av /\ ∀ E : Env, (∀ b, n <= b -> b < w.heap.size -> E.blk (a.next + (b - n)) = b) -> conc E av = v := by
    intro i
    cases hi : cs[i]? with
    | none => exact ⟨.nilp, fun c v h => by cases h⟩
    | some c =>
      cases hj : vs[i]? with
      | none => exact ⟨.nilp, fun c v _ h => by cases h⟩
      | some v =>
       obtain ⟨_, av, g1, g2⟩ := ih i c v hi hj; exact ⟨av, fun c' v' e1 e2 => by cases e1; cases e2; exact ⟨g1, g2⟩⟩
  obtain ⟨f, hf⟩ := Classical.axiomOfChoice hc; refine ⟨.tup ((List.range vs.size).map f), .tup (by simp [h1]) fun i c v hi hv => ?_, fun E hE => ?_⟩
  · have hi2 : i < vs.size := by rw [<- h1]; exact (List.getElem?_eq_some_iff.1 hi).1
    rw [List.getElem?_map, List.getElem?_range hi2] at hv
    cases hv; exact (hf i c _ hi (Array.getElem?_eq_getElem hi2)).1
  · simp only [conc, Value.tuple.injEq]; apply Array.ext_getElem?
    intro i; rw [List.getElem?_toArray, qa1, List.getElem?_map]; by_cases hi : i < vs.size
    · have hi2 : i < cs.length := by omega
      rw [List.getElem?_range hi, Array.getElem?_eq_getElem hi]; simp only [Option.map_some]; rw [(hf i _ _ (List.getElem?_eq_getElem hi2) (Array.getElem?_eq_getElem hi)).2 E hE]
    · rw [Array.getElem?_eq_none (by omega), List.getElem?_eq_none (by simp; omega)]; rfl
theorem qnW {P : Program} {f : FuncId} {k : CallKind} {l m : List Value} (hl : l.length = m.length) (h : Frame.enter P f l.toArray k = Frame.enter P f m.toArray k) : l = m := by
 have h := congrArg (fun fr => fr.tmps.toList.take l.length) h; simp only [Frame.enter] at h; simpa [hl] using h
section
variable {P : Program} {tab : Tab}
theorem zz86 (ok : TabOK P tab) {f : FuncId} {C : Con} (h : ∀ y, C.pre y -> ∀ (w : World) (args : List Value), OldW w -> RdL w (fun _ => True) true (C.args y) args ->
     Calls P f args.toArray w (fun e w' => ∃ v, e = .returned v /\ ((∃ i : Nat, (C.args y)[i]? = some (C.res y) /\ args[i]? = some v) \/ Up w' w.heap.size (C.res y) v) /\ Below w.heap.size w w' /\ ((default : DrP).dr -> w.drawn <= w'.drawn))) : ConOK P tab f C := by
 classical
 intro fn body hfn hb y hy Fz a avs hfz hwf hlen hav; intro D E K base frC csC w hR hB; have hP := ok.fns f fn hfn; obtain ⟨q1, q2, q3⟩ := hR.all E (Agree.refl _ _); have hconst : ∀ E', Agree D E E' -> qai E' avs = qai E avs := by
   intro E' he; obtain ⟨_, p2, _⟩ := hR.all E' he; simp only at p2 q2; rw [<- qbi hP hb] at p2 q2; exact qnW (by simp) (p2.trans q2.symm)
 have hargs : RdL w (fun _ => True) true (C.args y) (qai E avs) := by
   refine ⟨by simpa using hlen, fun i s v hs hv => ?_⟩; rw [qa1] at hv; obtain ⟨av, hav', rfl⟩ := Option.map_eq_some_iff.1 hv; exact qe9 q1 hfz (hav i s av hs hav')
 have hbc : base = csC := q3; subst hbc; obtain ⟨e, w', fr', ⟨v, rfl, hv, hbel, hdr⟩, s1, s2, s3⟩ := h y hy w _ (fun b hb => (hB b hb).2) hargs base; have hR0 : frC = Frame.enter P f (qai E avs).toArray .normal := by
   simp only at q2; rw [<- q2, qbi hP hb]
 let n := w.heap.size
 let h' := newH a n w'
 let Fz' : Nat -> Option AO := fun i => if i < a.next then Fz i else h'.get i
 let E' : Env := ⟨fun i => if i < a.next then E.blk i else n + (i - a.next), E.cap⟩
 let D' : Nat -> Prop := fun i => D i \/ (a.next <= i /\ i < a.next + (w'.heap.size - n))
 have hdom : ∀ i, D i -> i < a.next := hR.dom; have hsz : n <= w'.heap.size := hbel.size; have hag : ∀ E'', Agree D' E' E'' -> Agree D E E'' := by
   intro E'' he i hi; have h1 := he i (.inl hi); simp only [E', if_pos (hdom i hi)] at h1; exact h1
 have hblk : ∀ E'', Agree D' E' E'' -> ∀ i, a.next <= i -> i < a.next + (w'.heap.size - n) -> E''.blk i = n + (i - a.next) := by
   intro E'' he i h1 h2; have h3 := (he i (.inr ⟨h1, h2⟩)).1; simp only [E', if_neg (show ¬ i < a.next by omega)] at h3; exact h3
 have hblk2 : ∀ E'', Agree D' E' E'' -> ∀ b, n <= b -> b < w'.heap.size -> E''.blk (a.next + (b - n)) = b := by
   intro E'' he b h1 h2; rw [hblk E'' he _ (by omega) (by omega)]; omega
 have hnext : h'.next = a.next + (w'.heap.size - n) := rfl; have hdom' : ∀ i o, h'.get i = some o -> i < h'.next := by
   intro i o hi; have hi : (newH a n w').get i = some o := hi; unfold newH at hi; rw [qdi] at hi; split at hi
   · rename_i hlt; exact hlt
   · cases hi
 have hH : ∀ E'', Agree D' E' E'' -> HOK E'' h' K w' := by
   intro E'' he; obtain ⟨g1, _, _⟩ := hR.all E'' (hag E'' he); simp only at g1; refine ⟨fun i o hi => ?_, fun i o hi hr => ?_, fun i j oi oj hi hj hr hij => ?_, hdom', fun b hb' => Nat.lt_of_lt_of_le (g1.kb b hb') hsz, fun i o hi hr => ?_, g1.k0⟩
   · by_cases hlt : i < a.next
     · rw [show h'.get i = a.get i from qcj hlt] at hi; obtain ⟨c, h1, h2⟩ := g1.obj i o hi; exact ⟨c, by rw [hbel.block _ (Array.getElem?_eq_some_iff.1 h1).1]; exact h1, h2⟩
     · obtain ⟨arr, e, fz, hb2, rfl⟩ := ql6 (by omega) hi; have hlt2 := hdom' i _ hi; refine ⟨_, by rw [hblk E'' he i (by omega) (by omega)]; exact hb2, arr, fz, rfl, ⟨[], by simp [qmD (hblk2 E'' he)]⟩, by simp, trivial⟩
   · by_cases hlt : i < a.next
     · rw [show h'.get i = a.get i from qcj hlt] at hi; exact g1.nk i o hi hr
     · have hlt2 := hdom' i _ hi; rw [hblk E'' he i (by omega) (by omega)]; intro hk; have := g1.kb _ hk; omega
   · have hin : ∀ k ok', h'.get k = some ok' -> (k < a.next /\ E''.blk k < n) \/ (a.next <= k /\ E''.blk k = n + (k - a.next)) := by
       intro k ok' hk; by_cases hlt : k < a.next
       · rw [show h'.get k = a.get k from qcj hlt] at hk; obtain ⟨c, h1, h2⟩ := g1.obj k ok' hk; exact .inl ⟨hlt, (Array.getElem?_eq_some_iff.1 h1).1⟩
       · have := hdom' k _ hk; exact .inr ⟨by omega, hblk E'' he k (by omega) (by omega)⟩
     rcases hin i oi hi with ⟨h1, h2⟩ | ⟨h1, h2⟩ <;> rcases hin j oj hj with ⟨h3, h4⟩ | ⟨h3, h4⟩
     · rw [show h'.get i = a.get i from qcj h1] at hi; rw [show h'.get j = a.get j from qcj h3] at hj; exact g1.inj i j oi oj hi hj hr hij
     all_goals omega
   · by_cases hlt : i < a.next
     · rw [show h'.get i = a.get i from qcj hlt] at hi; exact g1.im i o hi hr
     · obtain ⟨arr, e, fz, hb2, rfl⟩ := ql6 (by omega) hi; exact hr.elim
 have hval : ∃ av, SimP Fz' (C.res y) av /\ ∀ E'', Agree D' E' E'' -> conc E'' av = v := by
   rcases hv with ⟨i, hi, hvi⟩ | hv
   · rw [qa1] at hvi; obtain ⟨av, hav', rfl⟩ := Option.map_eq_some_iff.1 hvi; refine ⟨av, (hav i _ av hi hav').mono fun j o hj => ?_, fun E'' he => ?_⟩
     · have : j < a.next := hwf j o (hfz j o hj); simp only [Fz', if_pos this]; exact hj
     · have h1 := congrArg (fun l => l[i]?) (hconst E'' (hag E'' he)); simp only [qa1, hav', Option.map_some, Option.some.injEq] at h1; exact h1
   · obtain ⟨_, av, g1, g2⟩ := quU (a := a) (n := n) (w := w') (Fz := Fz') (fun i o hi ho => by simp only [Fz', if_neg (show ¬ i < a.next by omega)]; exact ho) hv; exact ⟨av, g1, fun E'' he => g2 E'' (hblk2 E'' he)⟩
 obtain ⟨av, hsim, hconc⟩ := hval; refine ⟨av, h', ⟨Fz', fun i o hi => ?_, fun i o hi => ?_, hsim, ⟨by rw [hnext]; exact Nat.le_add_right _ _, fun i o hi => ?_⟩, fun i o hi => ?_, hdom', fun i o hi => ?_⟩, fr', w', v, E', D', ?_, s2, s3, fun E'' he => ⟨hH E'' he, hconc E'' he⟩, ?_, fun i hi => .inl hi, fun i hi => ?_, ⟨hbel.os, hbel.tape, hbel.output, hbel.size, fun b hb' => hbel.block b (q1.kb b hb'), hdr⟩, ?_, fun i hi => ?_⟩
 · have : i < a.next := hwf i o (hfz i o hi); simp only [Fz', if_pos this]; exact hi
 · by_cases hlt : i < a.next
   · simp only [Fz', if_pos hlt] at hi; rw [show h'.get i = a.get i from qcj hlt]; exact hfz i o hi
   · simp only [Fz', if_neg hlt] at hi; exact hi
 · by_cases hlt : i < a.next
   · rw [show h'.get i = a.get i from qcj hlt] at hi; exact .inl ⟨o, hi⟩
   · exact .inr (by omega)
 · rw [show h'.get i = a.get i from qcj (hwf i o hi)]; exact hi
 · by_cases hlt : i < a.next
   · simp only [Fz', if_pos hlt] at hi; exact .inl hi
   · exact .inr (by omega)
 · rw [hR0]; exact s1
 · intro i hi; exact ⟨if_pos (hdom i hi), rfl⟩
 · rcases hi with hi | ⟨_, hi⟩
   · have := hdom i hi; rw [hnext]; omega
   · exact hi
 · show a.next <= h'.next
   rw [hnext]; exact Nat.le_add_right _ _
 · rcases hi with hi | ⟨hi, _⟩
   · exact .inl hi
   · exact .inr hi
theorem zz88 (ok : TabOK P tab) {f : FuncId} {C : Con} (hc : ConOK P tab f C) {fn : Func} {body : Code} (hfn : tab.fns.get f = some fn) (hb : fn.body = some body) {y : C.Y} (hy : C.pre y) {args : List Value} {w : World}
  (hs : PL (rowH tab w).get (C.args y) (args.map (absA w.heap.size))) (hw : OldW w) : Calls P f args.toArray w (fun e w' => ∃ v, e = .returned v /\ Rd w' (fun _ => True) true (C.res y) v /\ Below w.heap.size w w' /\ ((default : DrP).dr -> w.drawn <= w'.drawn)) := by
 intro cs; have hP := ok.fns f fn hfn; have hdom : ∀ i o, (rowH tab w).get i = some o -> i < (rowH tab w).next := fun i o hi => (qes tab w (E := ⟨fun i => i, fun _ => 0⟩) (fun _ _ => rfl)).dom i o hi
 let E : Env := ⟨fun i => i, fun _ => 0⟩
 let D : Nat -> Prop := fun i => i < w.heap.size
 have hag : ∀ E', Agree D E E' -> ∀ i, i < w.heap.size -> E'.blk i = i := fun E' he i hi => (he i hi).1
 have hR : Rel D E (KS.old w.heap.size) { fr := AFrame.enter fn f body (args.map (absA w.heap.size)) .normal, cs := [], h := rowH tab w } cs (Frame.enter P f args.toArray .normal) cs w := by
  refine ⟨fun E' he => ⟨qes tab w (hag E' he), ?_, rfl⟩, fun i h => h, qdY _ _ _ _ _, fun f hf => by cases hf⟩; rw [<- qbi hP hb, qfo (hag E' he)]
 obtain ⟨v, h', ⟨Fz', _, f2, hsim, _⟩, fr', w', v', E', D', s1, s2, s3, s4, s5, s6, s7, s8, s9, s10⟩ := hc fn body hfn hb y hy (rowH tab w).get (rowH tab w) _ (fun _ _ h => h) hdom hs.1 hs.2 D E _ cs _ cs w hR hw.based; obtain ⟨g1, g2⟩ := s4 E' (Agree.refl _ _); subst g2; exact ⟨.returned (conc E' v), w', fr', ⟨_, rfl, qe9 g1 f2 hsim, ⟨s8.os, s8.tape, s8.output, s8.size, s8.block⟩, s8.drawn⟩, s1, s2, s3⟩
theorem qwd (ok : TabOK P tab) {f : FuncId} {C : Con} (hc : ConOK P tab f C) {fn : Func} {body : Code} (hfn : tab.fns.get f = some fn) (hb : fn.body = some body) {y : C.Y} (hy : C.pre y) {args : List Value} {w : World}
   (hs : PL (fun _ => none) (C.args y) (args.map (absA 0))) (hw : OldW w) : Calls P f args.toArray w (fun e w' => ∃ v, e = .returned v /\ Rd w' (fun b => w.heap.size <= b) true (C.res y) v /\ Below w.heap.size w w' /\ ((default : DrP).dr -> w.drawn <= w'.drawn)) := by
 intro cs; have hP := ok.fns f fn hfn; let E : Env := ⟨fun i => i, fun _ => 0⟩
 let K : KS := ⟨fun b => b < w.heap.size, 0⟩
 have hR : Rel (fun _ => False) E K { fr := AFrame.enter fn f body (args.map (absA 0)) .normal, cs := [], h := emptyH } cs (Frame.enter P f args.toArray .normal) cs w := by
   refine ⟨fun E' _ => ⟨qlK E' K w (fun b h => h) (fun b h => absurd h (Nat.not_lt_zero _)), ?_, rfl⟩, fun i h => h.elim, qdY _ _ _ _ _, fun f hf => by cases hf⟩; rw [<- qbi hP hb, qfo (fun i hi => absurd hi (Nat.not_lt_zero _))]
 obtain ⟨v, h', ⟨Fz', _, f2, hsim, _, _, _, f3⟩, fr', w', v', E', D', s1, s2, s3, s4, s5, s6, s7, s8, s9, s10⟩ := hc fn body hfn hb y hy (fun _ => none) emptyH _ (fun _ _ h => by cases h) (fun _ _ h => by cases h) hs.1 hs.2 _ E K cs _ cs w hR (fun b hb => ⟨hw.lt hb, hw b hb⟩); obtain ⟨g1, g2⟩ := s4 E' (Agree.refl _ _); subst g2; refine ⟨.returned (conc E' v), w', fr', ⟨_, rfl, qhS g1 f2 (fun i o hi => ?_) hsim, ⟨s8.os, s8.tape, s8.output, s8.size, s8.block⟩, s8.drawn⟩, s1, s2, s3⟩; have ho := f2 i o hi; by_cases hro : o.ro
 · exact absurd (g1.im i o ho hro) (Nat.not_lt_zero _)
 · exact Nat.not_lt.1 (g1.nk i o ho hro)
end
end Go.Sy
namespace Go.Sy
open Go.Am Go.RowKit
universe u v
variable [Inhabited DrP]
section
variable {P : Program} {tab : Tab}
end
end Go.Sy
namespace Go.Sy
open Go.Am Go.RowKit
universe u v
def fr0 (f : FuncId) : Frame := { (default : Frame) with fn := f, kind := .normal }
def Mid (P : Program) (f : FuncId) (l : List Item) (a : Act) (w : World) (R : Ending -> World -> Prop) : Prop :=
 ∀ cs, ∃ e w' fr, R e w' /\ Comes P (lone ((fr0 f).at a l) cs w) (lone fr cs w') e /\ fr.fn = f /\ fr.leaving P w' e
theorem qfK {P : Program} {f : FuncId} {fn : Func} {c : Code} {args : Array Value} {w : World} {R : Ending -> World -> Prop} (hf : P.funcs[f]? = some fn) (hb : fn.body = some c)
  (h : Mid P f [.code c] { tmps := args ++ Array.replicate (fn.ntmps - args.size) undef, defers := [] } w R) : Calls P f args w R := by
 intro cs; have henter : Frame.enter P f args .normal = (fr0 f).at { tmps := args ++ Array.replicate (fn.ntmps - args.size) undef, defers := [] } [.code c] := by
  simp [Frame.enter, Frame.at, hf, hb, fr0]
 rw [henter]; exact h cs
theorem Mid.steps {P : Program} {f : FuncId} {l l' : List Item} {a a' : Act} {w w' : World} {R : Ending -> World -> Prop} (hs : ∀ cs, Steps P (lone ((fr0 f).at a l) cs w) (lone ((fr0 f).at a' l') cs w')) (h : Mid P f l' a' w' R) : Mid P f l a w R := by
 intro cs; obtain ⟨e, w2, fr, h1, h2, h3⟩ := h cs; exact ⟨e, w2, fr, h1, Comes.of_steps (hs cs) h2, h3⟩
def qkN (P : Program) (f : FuncId) (fn : Func) (l : List Item) (R : Ending -> World -> Prop) : Exit -> Act -> World -> Prop
 | .normal, a, w => Mid P f l a w R
 | .ret, a, w => a.defers = [] /\ ∃ v, (results fn a.tmps).run P w = .ok v w /\ R (.returned v) w
 | _, _, _ => False
theorem Mid.code {P : Program} {f : FuncId} {fn : Func} {c : Code} {l : List Item} {a : Act} {w : World} {R : Ending -> World -> Prop} (hf : P.funcs[f]? = some fn) (h : c.wp P (qkN P f fn l R) a w) : Mid P f (.code c :: l) a w R := by
 intro cs; obtain ⟨e, a', w', hq, harr⟩ := h (fr0 f) l cs
 cases e with
 | normal =>
  obtain ⟨e, w2, fr, h1, h2, h3⟩ := hq cs; exact ⟨e, w2, fr, h1, Comes.of_steps harr h2, h3⟩
 | ret =>
  obtain ⟨hd, v, hr, hR⟩ := hq; obtain ⟨todo, hs⟩ := harr; exact ⟨.returned v, w', _, hR, hs, rfl, rfl, hd, rfl, fn, hf, hr⟩
 | panic chain => exact hq.elim
 | exit id => exact hq.elim
 | goto l => exact hq.elim
 | outgrown => exact hq.elim
theorem Mid.seq {P : Program} {f : FuncId} {x y : Code} {l : List Item} {a : Act} {w : World} {R : Ending -> World -> Prop} (h : Mid P f (.code x :: .code y :: l) a w R) : Mid P f (.code (.seq x y) :: l) a w R :=
 h.steps fun _ => .one step_seq
theorem Mid.nil {P : Program} {f : FuncId} {fn : Func} {a : Act} {w : World} {R : Ending -> World -> Prop} (hf : P.funcs[f]? = some fn) (hd : a.defers = []) {v : Value} (hr : (results fn a.tmps).run P w = .ok v w) (hR : R (.returned v) w) : Mid P f [] a w R :=
 fun cs => ⟨.returned v, w, _, hR, .one step_end, rfl, rfl, hd, rfl, fn, hf, hr⟩
theorem Mid.next {P : Program} {f : FuncId} {fn : Func} {x y : Code} {l : List Item} {a : Act} {w : World} {R : Ending -> World -> Prop} (hf : P.funcs[f]? = some fn) (h : x.wp P (qkN P f fn (.code y :: l) R) a w) : Mid P f (.code (.seq x y) :: l) a w R :=
 .seq (.code hf h)
variable [Inhabited DrP]
section
variable {P : Program} {tab : Tab} {cfg : Cfg}
def Slots (tab : Tab) (w : World) (tmps : Array Value) (ts : Fr) : Prop := ∃ avs : List AV, avs.length = tmps.size /\ (∀ E : Env, (∀ i, i < w.heap.size -> E.blk i = i) -> qai E avs = tmps.toList) /\ ∀ t s, look ts t = some s -> ∃ av, avs[t]? = some av /\ SimV ⟨fun _ => none, (rowH tab w).get⟩ s av
theorem Slots.nil {w : World} {tmps : Array Value} : Slots tab w tmps [] := ⟨tmps.toList.map (absA w.heap.size), by simp, fun E hE => qfo hE _, fun t s h => by cases h⟩
theorem Slots.put {w : World} {tmps : Array Value} {ts : Fr} {t : Nat} {s : SV} {v : Value} {av : AV} (h1 : tmps[t]? = some v) (hc : ∀ E : Env, (∀ i, i < w.heap.size -> E.blk i = i) -> conc E av = v) (h2 : SimP (rowH tab w).get s av) (h : Slots tab w tmps ts) : Slots tab w tmps ((t, s) :: ts) := by
 obtain ⟨avs, k0, k1, k2⟩ := h; have ht : t < avs.length := by rw [k0]; exact (Array.getElem?_eq_some_iff.1 h1).1
 refine ⟨avs.set t av, by simpa using k0, fun E hE => ?_, fun t' s' hl => ?_⟩
 · apply List.ext_getElem?
   intro j; have k := congrArg (fun l => l[j]?) (k1 E hE); simp only [qa1] at k ⊢; rw [List.getElem?_set]; by_cases e : t = j
   · subst e; rw [if_pos rfl, if_pos ht, Array.getElem?_toList, h1]; simp [hc E hE]
   · rw [if_neg e]; exact k
 · rw [qaY] at hl; rw [List.getElem?_set]; by_cases e : t' = t
   · subst e; rw [if_pos rfl] at hl
     cases hl; exact ⟨av, by rw [if_pos rfl, if_pos ht], .pure h2⟩
   · rw [if_neg e] at hl; obtain ⟨av', h3, h4⟩ := k2 t' s' hl; exact ⟨av', by rw [if_neg (fun h => e h.symm)]; exact h3, h4⟩
theorem Slots.cons {w : World} {tmps : Array Value} {ts : Fr} {t : Nat} {s : SV} {v : Value} (h1 : tmps[t]? = some v) (h2 : SimP (rowH tab w).get s (absA w.heap.size v)) (h : Slots tab w tmps ts) : Slots tab w tmps ((t, s) :: ts) :=
 h.put h1 (fun E hE => qgz hE v) h2
theorem qxm (pr : PrOK P tab) (htab : cfg.tab = tab) (hcon : ∀ g C, cfg.con g = some C -> ConOK P tab g C) {n : Nat} {f : FuncId} {c : Code} {a : Act} {w : World} {Q : SV -> St -> Prop} {Θ : Value -> Prop} {ts : Fr} (hd : a.defers = [])
  (h : wp cfg n ⟨f, a.tmps.size, 0, [.code c], ⟨ts, ⟨0, []⟩, []⟩⟩ Q) (hs : Slots tab w a.tmps ts) (hQ : ∀ sv s, Q sv s -> ∀ C av E, SimV C sv av -> Θ (conc E av)) (hw : OldW w) :
  Mid P f [.code c] a w (fun e w' => (∃ v, Θ v /\ e = .returned v) /\ Below w.heap.size w w') := by
 obtain ⟨avs, a0, a1, a2⟩ := hs; intro cs; let E : Env := ⟨fun i => i, fun _ => 0⟩
 let D : Nat -> Prop := fun i => i < w.heap.size
 let fr : AFrame := { fn := f, nt := a.tmps.size, tmps := T.ofList avs, todo := [.code c], defers := [], mode := .run, kind := .normal, round := none }
 have hdom : ∀ i o, (rowH tab w).get i = some o -> i < (rowH tab w).next := fun i o hi => (qes tab w (E := E) (fun _ _ => rfl)).dom i o hi
 have hgo : AGo P { fr, cs := [], h := rowH tab w } _ := (qpf pr htab hcon (fun _ hrec => qlJ htab hrec hcon) n).2 f a.tmps.size 0 [.code c] ⟨ts, ⟨0, []⟩, []⟩ Q ⟨fun _ => none, (rowH tab w).get⟩ ⟨0, []⟩ (rowH tab w) (fun p I hp => by cases hp) (fun p o hp => by simp [SH.get, look] at hp)
  fr (rowH tab w) h ⟨rfl, rfl, rfl, rfl, rfl, rfl⟩ (.code c .nil) ⟨⟨fun _ => none, (rowH tab w).get⟩, fun t s hl => by
    obtain ⟨v, h1, h2⟩ := a2 t s hl; show SimV _ s (((T.ofList avs).get t).getD (.tup []))
    rw [zz18, h1]; exact h2, ⟨fun p o hp => (by simp [SH.get, look] at hp), fun p q o o' I J hp => (by simp [SH.get, look] at hp), fun i o hi => hi, fun p o I hp => (by simp [SH.get, look] at hp), fun p I hp => (by cases hp), hdom⟩, Tr.refl _, Grow.refl _, Keep.same _ _ _ _⟩
 have hag : ∀ E', Agree D E E' -> ∀ i, i < w.heap.size -> E'.blk i = i := fun E' he i hi => (he i hi).1
 have hconc : ∀ E', Agree D E E' -> qak E' fr = (fr0 f).at a [.code c] := by
  intro E' he; have k1 := a1 E' (hag E' he); obtain ⟨tm, df⟩ := a
  cases hd; unfold qak Frame.at fr0; simp only [fr, List.map_cons, List.map_nil, qaV, qbl, Option.map_none]; congr 1
  apply Array.ext_getElem?
  intro j; have k2 := congrArg (fun l => l[j]?) k1; simp only [qa1, Array.getElem?_toList] at k2; rw [tmps_get?, zz18, <- k2]; by_cases hj : j < tm.size
  · rw [if_pos hj, List.getElem?_eq_getElem (by rw [a0]; exact hj)]; simp
  · rw [if_neg hj, List.getElem?_eq_none (by rw [a0]; show tm.size <= j; omega)]; rfl
 have hR : Rel D E (KS.old w.heap.size) { fr, cs := [], h := rowH tab w } cs ((fr0 f).at a [.code c]) cs w := by
  refine ⟨fun E' he => ⟨qes tab w (hag E' he), hconc E' he, rfl⟩, fun i h => h, fun t ht => ?_, fun f hf => by cases hf⟩; show (T.ofList avs).get t = none
  have ht : a.tmps.size <= t := ht; rw [zz18, List.getElem?_eq_none (by rw [a0]; exact ht)]
 obtain ⟨v, h', ⟨sv, s', C', hq, hsv, _⟩, fr', w', v', E', D', s1, s2, s3, s4, s5, s6, s7, s8, s9, s10⟩ := hgo D E _ cs _ cs w hR hw.based; obtain ⟨_, g2⟩ := s4 E' (Agree.refl _ _); subst g2; exact ⟨.returned (conc E' v), w', fr', ⟨⟨_, hQ sv s' hq C' v E' hsv, rfl⟩, s8.os, s8.tape, s8.output, s8.size, s8.block⟩, s1, s2, s3⟩
theorem qvF (pr : PrOK P tab) (htab : cfg.tab = tab) (hcon : ∀ g C, cfg.con g = some C -> ConOK P tab g C) {n : Nat} {f : FuncId} {c : Code} {a : Act} {w : World} {ts : Fr} (hd : a.defers = [])
  (h : wp cfg n ⟨f, a.tmps.size, 0, [.code c], ⟨ts, ⟨0, []⟩, []⟩⟩ isT) (hs : Slots tab w a.tmps ts) (hw : OldW w) :
  Mid P f [.code c] a w (fun e w' => e = .returned (.bool true) /\ Below w.heap.size w w') := by
 have := qxm (Θ := fun v => v = .bool true) pr htab hcon hd h hs (fun sv s hq C av E hsv => by
  unfold isT at hq; split at hq
  · rw [hq] at hsv; rw [qcp hsv]; rfl
  · exact hq.elim) hw
 intro cs; obtain ⟨e, w', fr, ⟨⟨v, rfl, he⟩, hb⟩, h2⟩ := this cs; exact ⟨e, w', fr, ⟨he, hb⟩, h2⟩
end
end Go.Sy
set_option maxRecDepth 100000
set_option maxHeartbeats 1000000
namespace Go.Gm
open Go Go.RowKit
variable {P : Program} {K V : Type} [DecidableEq K]
structure KeyLaw (P : Program) (T : TypeId) (enc : K -> Value) : Prop where
 chk : ∀ (b : Bool) (k : K) (w : World), (Instr.checkKey b 10000 T (enc k)).run P w = .ok () w
 eq : ∀ (a b : K) (w : World), (Op.equal T (enc a) (enc b)).run P w = .ok (decide (a = b)) w
 bits : ∀ k, Instr.sameBits 10000 (enc k) (enc k) = true
 und : ∃ fs, P.underlying T = some (.struct fs)
def qdx (k : K) (enc : V -> Value) : List (K × V) -> Nat -> Option (Nat × Value)
 | [], _ => none
 | x :: L, i => if k = x.1 then some (i, enc x.2) else qdx k enc L (i + 1)
def Rep (enc : K -> Value) (encV : V -> Value) (es : List MapEntry) (L : List (K × V)) : Prop := es.map (fun e => (e.key, e.val)) = L.map fun x => (enc x.1, encV x.2)
theorem qhx {T : TypeId} {enc : K -> Value} {encV : V -> Value} (hK : KeyLaw P T enc) (k : K) (w : World) : ∀ (es : List MapEntry) (L : List (K × V)) (i : Nat), Rep enc encV es L -> (Instr.findAsking T (enc k) es i).run P w = .ok (qdx k encV L i) w
 | [], [], i, _ => by simp [Instr.findAsking, qdx]
 | [], _ :: _, i, h => by simp [Rep] at h
 | _ :: _, [], i, h => by simp [Rep] at h
 | e :: es, x :: L, i, h => by
  simp only [Rep, List.map_cons, List.cons.injEq, Prod.mk.injEq] at h; obtain ⟨⟨h1, h2⟩, h3⟩ := h; have ih := qhx hK k w es L (i + 1) h3; simp only [Instr.findAsking, Sem.run_bind, h1, hK.eq, Result.andThen_ok, qdx]; by_cases hk : k = x.1
  · simp [hk, h2]
  · simp [hk, ih]
theorem qbU {T : TypeId} {enc : K -> Value} {encV : V -> Value} (hK : KeyLaw P T enc) (k : K) (w : World) (es : List MapEntry) (L : List (K × V)) (h : Rep enc encV es L) : (Instr.findKey T (enc k) es).run P w = .ok (qdx k encV L 0) w := by
 obtain ⟨fs, hu⟩ := hK.und; unfold Instr.findKey; simp only [Sem.run_bind, run_underlying hu, Result.andThen_ok]
 cases es with
 | nil =>
  cases L with
  | nil => simp [Instr.findNow, qdx]
  | cons => simp [Rep] at h
 | cons e es =>
  have : Instr.findNow (.struct fs) (enc k) (e :: es) 0 = none := by simp [Instr.findNow, Instr.sameNow]
  rw [this]; exact qhx hK k w _ L 0 h
structure MapIs (w : World) (b : Nat) (enc : K -> Value) (encV : V -> Value) (L : List (K × V)) : Prop where
 at_ : ∃ es clk, w.heap[b]? = some (.map es clk) /\ Rep enc encV es.toList L /\ (es.toList.map (·.born)).Pairwise (· < ·) /\ ∀ e ∈ es.toList, e.born < clk
 nd : (L.map (·.1)).Nodup
def getL (L : List (K × V)) (k : K) : Option V := (L.find? fun x => decide (k = x.1)).map (·.2)
def qaq (L : List (K × V)) (k : K) (v : V) : List (K × V) := if k ∈ L.map (·.1) then L.map (fun x => if k = x.1 then (k, v) else x) else L ++ [(k, v)]
def delL (L : List (K × V)) (k : K) : List (K × V) := L.filter fun x => !decide (k = x.1)
theorem idx_none {k : K} {encV : V -> Value} : ∀ {L : List (K × V)} {i : Nat}, qdx k encV L i = none ↔ k ∉ L.map (·.1)
 | [], i => by simp [qdx]
 | x :: L, i => by
  unfold qdx; by_cases h : k = x.1
  · rw [if_pos h]; simp [h]
  · rw [if_neg h, idx_none]; simp [h]
theorem qf9 {k : K} {encV : V -> Value} : ∀ {L : List (K × V)} {i j : Nat} {v : Value}, qdx k encV L i = some (j, v) -> ∃ n, j = i + n /\ ∃ h : n < L.length, L[n].1 = k /\ v = encV L[n].2 /\ ∀ m (hm : m < n), L[m].1 ≠ k
 | [], i, j, v, h => by cases h
 | x :: L, i, j, v, h => by
  unfold qdx at h; by_cases hk : k = x.1
  · rw [if_pos hk] at h
    cases h; exact ⟨0, rfl, by simp, hk.symm, rfl, fun m hm => absurd hm (Nat.not_lt_zero _)⟩
  · rw [if_neg hk] at h; obtain ⟨n, rfl, hn, h1, h2, h3⟩ := qf9 h; refine ⟨n + 1, by omega, by simpa using hn, by simpa using h1, by simpa using h2, fun m hm => ?_⟩
    cases m with
    | zero => exact fun e => hk e.symm
    | succ m => exact h3 m (by omega)
theorem qoi {k : K} {encV : V -> Value} : ∀ {L : List (K × V)} {i : Nat}, (qdx k encV L i).map (·.2) = (getL L k).map encV
 | [], i => by simp [qdx, getL]
 | x :: L, i => by
  unfold qdx getL; by_cases h : k = x.1
  · rw [if_pos h]; simp [h]
  · rw [if_neg h, qoi]; simp [h, getL]
theorem MapIs.lookup {w : World} {b : Nat} {enc : K -> Value} {encV : V -> Value} {L : List (K × V)} (h : MapIs w b enc encV L) {T Te t : TypeId} (hK : KeyLaw P T enc) (ht : P.underlying t = some (.map T Te)) {z : Value} (hz : (zeroValue Te).run P w = .ok z w) (k : K) (ok : Bool) :
  (Instr.lookup t (.map (some b)) (enc k) ok).run P w = .ok (if ok then .tuple #[((getL L k).map encV).getD z, .bool (getL L k).isSome] else ((getL L k).map encV).getD z) w := by
 obtain ⟨⟨es, clk, hb, hr, _⟩, _⟩ := h; have hf := qbU hK k w es.toList L hr; have hg := qoi (k := k) (encV := encV) (L := L) (i := 0); have hgo : (getObj b).run P w = .ok (.map es clk) w := by simp [getObj, Sem.run, hb]
 unfold Instr.lookup; simp only [Sem.run_bind, run_underlying ht, Result.andThen_ok, hgo, Sem.run_pure, hK.chk, hf]
 cases e : qdx k encV L 0 with
 | none =>
  rw [e] at hg; simp only [Option.map_none] at hg; have hn : getL L k = none := by
   cases hh : getL L k with
   | none => rfl
   | some v => rw [hh] at hg; cases hg
  simp only [hn, hz, Sem.run_bind, Result.andThen_ok, Sem.run_pure]
  cases ok <;> simp
 | some q =>
  obtain ⟨j, v⟩ := q; rw [e] at hg; simp only [Option.map_some] at hg; obtain ⟨u, hu, rfl⟩ : ∃ u, getL L k = some u /\ encV u = v := by
   cases hh : getL L k with
   | none => rw [hh] at hg; cases hg
   | some u => rw [hh] at hg; exact ⟨u, rfl, by simpa using hg.symm⟩
  simp only [hu, Sem.run_pure, Result.andThen_ok]
  cases ok <;> simp
theorem MapIs.len {w : World} {b : Nat} {enc : K -> Value} {encV : V -> Value} {L : List (K × V)} (h : MapIs w b enc encV L) : ∃ es clk, w.heap[b]? = some (.map es clk) /\ es.size = L.length := by
 obtain ⟨⟨es, clk, hb, hr, _⟩, _⟩ := h; refine ⟨es, clk, hb, ?_⟩; have := congrArg List.length hr; simpa using this
def World.setO (w : World) (b : Nat) (o : Obj) : World := { w with heap := w.heap.setIfInBounds b o }
theorem qdM {L : List (K × V)} (h : (L.map (·.1)).Nodup) (k : K) (v : V) : ((qaq L k v).map (·.1)).Nodup := by
 unfold qaq; split
 · have : (L.map fun x => if k = x.1 then (k, v) else x).map (·.1) = L.map (·.1) := by
    rw [List.map_map]; refine List.map_congr_left fun x _ => ?_
    simp only [Function.comp]; split
    · assumption
    · rfl
   rw [this]; exact h
 · rename_i hk; rw [List.map_append, List.nodup_append]; refine ⟨h, by simp, fun a ha b hb => ?_⟩; simp at hb; subst hb; rintro rfl; exact hk ha
theorem qrF {L : List (K × V)} (h : (L.map (·.1)).Nodup) {n : Nat} (hn : n < L.length) (v : V) : qaq L L[n].1 v = L.set n (L[n].1, v) := by
 unfold qaq; rw [if_pos (List.mem_map.2 ⟨L[n], List.getElem_mem hn, rfl⟩)]; apply List.ext_getElem
 · simp
 · intro i h1 h2; simp only [List.getElem_map, List.getElem_set]; have hi : i < L.length := by simpa using h1
   by_cases e : n = i
   · subst e; simp
   · rw [if_neg e]; have : ¬ L[n].1 = L[i].1 := fun he => by
      have hp := List.pairwise_iff_getElem.1 h; rcases Nat.lt_or_ge n i with hlt | hge
      · exact hp n i (by simpa using hn) (by simpa using hi) hlt (by simpa using he)
      · exact hp i n (by simpa using hi) (by simpa using hn) (by omega) (by simpa using he.symm)
     rw [if_neg this]
theorem qcI {w : World} {b : Nat} {es0 es : Array MapEntry} {c0 c : Nat} (hb : w.heap[b]? = some (.map es0 c0)) : (setObj b (.map es c)).run P w = .ok () (World.setO w b (.map es c)) := by
 simp [setObj, Sem.run, World.setO, hb]
theorem qbP {w : World} {b : Nat} {o o' : Obj} (hb : w.heap[b]? = some o) (j : Nat) : (World.setO w b o').heap[j]? = if j = b then some o' else w.heap[j]? := by
 have hlt := (Array.getElem?_eq_some_iff.1 hb).1; simp only [World.setO, Array.getElem?_setIfInBounds]; by_cases e : b = j
 · subst e; simp [hlt]
 · rw [if_neg e, if_neg (Ne.symm e)]
theorem MapIs.update {w : World} {b : Nat} {enc : K -> Value} {encV : V -> Value} {L : List (K × V)} (h : MapIs w b enc encV L) {T Te t : TypeId} (hK : KeyLaw P T enc) (ht : P.underlying t = some (.map T Te)) (k : K) (v : V) :
  ∃ es clk, (Instr.mapUpdate t (.map (some b)) (enc k) (encV v)).run P w = .ok () (World.setO w b (.map es clk)) /\ MapIs (World.setO w b (.map es clk)) b enc encV (qaq L k v) := by
 obtain ⟨⟨es, clk, hb, hr, hs, hc⟩, hnd⟩ := h; have hf := qbU hK k w es.toList L hr; have hgo : (getObj b).run P w = .ok (.map es clk) w := by simp [getObj, Sem.run, hb]
 unfold Instr.mapUpdate; simp only [Sem.run_bind, run_underlying ht, Result.andThen_ok, hgo, hK.chk, hf]
 cases e : qdx k encV L 0 with
 | none =>
  have hk := idx_none.1 e; refine ⟨es.push ⟨enc k, encV v, clk⟩, clk + 1, qcI hb, ⟨⟨_, _, by rw [qbP hb, if_pos rfl], ?_, ?_, ?_⟩, qdM hnd k v⟩⟩
  · unfold qaq Rep; rw [if_neg hk, Array.toList_push, List.map_append, List.map_append, hr]; rfl
  · rw [Array.toList_push, List.map_append, List.pairwise_append]; refine ⟨hs, by simp, fun a ha c hc' => ?_⟩; obtain ⟨x, hx, rfl⟩ := List.mem_map.1 ha; simp at hc'; subst hc'; exact hc x hx
  · intro x hx; rw [Array.toList_push, List.mem_append] at hx; rcases hx with hx | hx
    · have := hc x hx; omega
    · simp at hx; subst hx; exact Nat.lt_succ_self _
 | some q =>
  obtain ⟨j, u⟩ := q; obtain ⟨n, hj, hn, h1, h2, _⟩ := qf9 e; simp only [Nat.zero_add] at hj; subst hj; have hlen : es.size = L.length := by simpa using congrArg List.length hr
  have hn' : j < es.size := by omega
  have hkey : es[j].key = enc k := by
    have := congrArg (fun l => (l[j]?).map Prod.fst) hr; simp [hn', hn] at this; rw [this, h1]
  have hks : (Instr.keyThatStays (((es[j]?).map fun x : MapEntry => x.key).getD (enc k)) (enc k)).run P w = .ok (enc k) w := by
    simp [hn', hkey, Instr.keyThatStays, hK.bits]
  simp only [Sem.run_bind, hks, Result.andThen_ok]; have hput : qaq L k v = L.set j (k, v) := by
    have := qrF hnd hn v; rw [h1] at this; exact this
  have hget : ∀ i, (es.modify j fun e => { e with key := enc k, val := encV v }).toList[i]? = if j = i then (es.toList[i]?).map (fun e => { e with key := enc k, val := encV v }) else es.toList[i]? := fun i => by
    rw [Array.toList_modify, List.getElem?_modify]; by_cases h : j = i
    · simp [h]
    · simp [h]
  have hborn : (es.modify j fun e => { e with key := enc k, val := encV v }).toList.map (·.born) = es.toList.map (·.born) := by
    apply List.ext_getElem?
    intro i; rw [List.getElem?_map, List.getElem?_map, hget]; split <;> simp [Option.map_map, Function.comp_def]
  refine ⟨es.modify j fun e => { e with key := enc k, val := encV v }, clk, qcI hb, ⟨⟨_, _, by rw [qbP hb, if_pos rfl], ?_, by rw [hborn]; exact hs, ?_⟩, qdM hnd k v⟩⟩
  · rw [hput]; unfold Rep at hr ⊢; apply List.ext_getElem?
    intro i; have hri := congrArg (fun l => l[i]?) hr; simp only [List.getElem?_map] at hri ⊢; rw [hget, List.getElem?_set]; by_cases h : j = i
    · subst h; simp [hn, hn']
    · rw [if_neg h, if_neg h]; exact hri
  · intro x hx; have hm : x.born ∈ (es.modify j fun e => { e with key := enc k, val := encV v }).toList.map (·.born) := List.mem_map.2 ⟨x, hx, rfl⟩; rw [hborn] at hm; obtain ⟨y, hy, he⟩ := List.mem_map.1 hm; rw [<- he]; exact hc y hy
theorem MapIs.delete {w : World} {b : Nat} {enc : K -> Value} {encV : V -> Value} {L : List (K × V)} (h : MapIs w b enc encV L) {T Te t ty : TypeId} (hK : KeyLaw P T enc) (ht : P.underlying t = some (.map T Te)) (k : K) {ts : Array TypeId} (h0 : ts[0]? = some t) :
  ∃ es clk, (Builtin.delete_ ts ty #[.map (some b), enc k]).run P w = .ok (.tuple #[]) (World.setO w b (.map es clk)) /\ MapIs (World.setO w b (.map es clk)) b enc encV (delL L k) := by
 obtain ⟨⟨es, clk, hb, hr, hs, hc⟩, hnd⟩ := h; have hf := qbU hK k w es.toList L hr; have hgo : (getObj b).run P w = .ok (.map es clk) w := by simp [getObj, Sem.run, hb]
 have hnd' : ((delL L k).map (·.1)).Nodup := List.Sublist.nodup (List.filter_sublist.map _) hnd; unfold Builtin.delete_; simp only [h0, List.getElem?_toArray, List.getElem?_cons_zero, List.getElem?_cons_succ, Sem.run_bind, run_underlying ht, Result.andThen_ok, hgo, hK.chk, hf]
 cases e : qdx k encV L 0 with
 | none =>
  have hk := idx_none.1 e; have hd : delL L k = L := by
    unfold delL; rw [List.filter_eq_self]; intro x hx; simp only [Bool.not_eq_true', decide_eq_false_iff_not]; rintro rfl; exact hk (List.mem_map.2 ⟨x, hx, rfl⟩)
  refine ⟨es, clk, by simp [qcI hb], ⟨⟨_, _, by rw [qbP hb, if_pos rfl], ?_, hs, hc⟩, hnd'⟩⟩; rw [hd]; exact hr
 | some q =>
  obtain ⟨j, u⟩ := q; obtain ⟨n, hj, hn, h1, h2, h3⟩ := qf9 e; simp only [Nat.zero_add] at hj; subst hj; have hd : delL L k = L.eraseIdx j := by
    have hp := List.pairwise_iff_getElem.1 hnd; unfold delL; rw [List.eraseIdx_eq_take_drop_succ]; conv => lhs; rw [<- List.take_append_drop j L, List.drop_eq_getElem_cons hn]
    rw [List.filter_append, List.filter_cons, if_neg (by simp [h1])]; congr 1
    · rw [List.filter_eq_self]; intro x hx; obtain ⟨i, hi, rfl⟩ := List.getElem_of_mem hx; simp only [List.length_take] at hi; simp only [List.getElem_take, Bool.not_eq_true', decide_eq_false_iff_not]; exact fun he => h3 i (by omega) he.symm
    · rw [List.filter_eq_self]; intro x hx; obtain ⟨i, hi, rfl⟩ := List.getElem_of_mem hx; simp only [List.length_drop] at hi; simp only [List.getElem_drop, Bool.not_eq_true', decide_eq_false_iff_not]; intro he; exact hp j (j + 1 + i) (by simpa using hn) (by simp; omega) (by omega) (by simpa [h1] using he)
  have hlen : es.size = L.length := by simpa using congrArg List.length hr
  have hte : (es.eraseIdxIfInBounds j).toList = es.toList.eraseIdx j := by
    rw [Array.eraseIdxIfInBounds, dif_pos (by omega)]; simp
  refine ⟨es.eraseIdxIfInBounds j, clk, by simp [qcI hb], ⟨⟨_, _, by rw [qbP hb, if_pos rfl], ?_, ?_, ?_⟩, hnd'⟩⟩
  · unfold Rep at hr ⊢; rw [hd, hte, List.eraseIdx_eq_take_drop_succ, List.eraseIdx_eq_take_drop_succ, List.map_append, List.map_append, List.map_take, List.map_drop, List.map_take, List.map_drop, hr]
  · rw [hte]; exact List.Pairwise.sublist ((List.eraseIdx_sublist _ _).map _) hs
  · rw [hte]; exact fun x hx => hc x ((List.eraseIdx_sublist _ _).subset hx)
theorem MapIs.fresh (w : World) (enc : K -> Value) (encV : V -> Value) : MapIs (w.alloc (.map #[] 0)) w.heap.size enc encV ([] : List (K × V)) :=
 ⟨⟨#[], 0, by (show (w.heap.push _)[w.heap.size]? = _; simp), by simp [Rep], by simp, by simp⟩, by simp⟩
theorem MapIs.same {w w' : World} {b : Nat} {enc : K -> Value} {encV : V -> Value} {L : List (K × V)} (h : MapIs w b enc encV L) (e : w'.heap[b]? = w.heap[b]?) : MapIs w' b enc encV L :=
 ⟨by rw [e]; exact h.at_, h.nd⟩
end Go.Gm
namespace Go.Proofs
open Go Go.Am Go.RowKit Go.Sy
abbrev Bs := List UInt8
def nB (b : UInt8) : Int := Int.ofNat b.toNat
def qbb (s : Bs) : List SV := [.str s]
def posB (s : Bs) (c : Int) : Option Nat := s.findIdx? (fun b => nB b == c)
def qct (s : Bs) (c : Int) : Int := match posB s c with | some i => (i : Int) | none => -1
def cutB (s : Bs) (c : Int) : Bs × Bs × Bool := match posB s c with | some i => (s.take i, s.drop (i + 1), true) | none => (s, [], false)
def qaa : Bs -> Int -> List Bs
 | [], _ => [[]]
 | b :: s, c => if nB b = c then [] :: qaa s c else match qaa s c with
  | h :: t => (b :: h) :: t
  | [] => [[b]]
def qaJ (b : UInt8) : Bool := decide (48 <= nB b) && decide (nB b <= 57)
def qaD (s : Bs) : Nat := (s.takeWhile qaJ).length
def qap (n : Int) (b : UInt8) : Int := min (n * 10 + (nB b - 48)) 1099511627776
def negB (s : Bs) : Bool := match s with | b :: _ => nB b == 45 | [] => false
def absN (s : Bs) : Bs := if negB s then s.drop 1 else s
def numB (s : Bs) : Int × Bool := if absN s = [] \/ qaD (absN s) < (absN s).length then (0, false) else ((if negB s then -1 else 1) * (absN s).foldl qap 0, true)
def qfF : Nat -> Nat -> Bs
 | 0, _ => []
 | k + 1, n => if n <= 9 then [UInt8.ofNat (48 + n)] else qfF k (n / 10) ++ [UInt8.ofNat (48 + n % 10)]
def qdl (n : Nat) : Bs := qfF 40 n
def qck (b : UInt8) : Bool := (decide (97 <= nB b) && decide (nB b <= 122)) || (decide (48 <= nB b) && decide (nB b <= 57)) || nB b == 45 || nB b == 95
def qbQ (c : Int) (e : Bool) : Bool := if c = 45 then !e else (decide (97 <= c) && decide (c <= 122)) || (decide (48 <= c) && decide (c <= 57)) || c == 95
def qaE (s : Bs) : Bool := s != [] && decide (s.length <= 63) && s.all qck && s.head? != some 45 && s.getLast? != some 45
def qcb (p : Bs) : Bool := p != [] && decide (qaD p = p.length) && decide ((numB p).1 <= 255) && !(decide (1 < p.length) && p.head? == some 48)
def qbr (s : Bs) : Bool := decide ((qaa s 46).length = 4) && (qaa s 46).all qcb
def hexB (b : UInt8) : Bool := (decide (48 <= nB b) && decide (nB b <= 57)) || (decide (97 <= nB b) && decide (nB b <= 102)) || nB b == 58 || nB b == 46
def qaM (s : Bs) : Bool := decide (4 <= s.length) && decide (s.length <= 47) && s.head? == some 91 && s.getLast? == some 93 && ((s.drop 1).take (s.length - 2)).all hexB
def qcg (s : Bs) : Bool := qbr s || qaM s
def qbB (s : Bs) : Bool := decide (s.length <= 256) && !qbr s && (qaa s 46).all qaE
theorem qjG {a b : UInt8} (h : nB a = nB b) : a = b := by
 unfold nB at h; exact UInt8.toNat_inj.1 (Int.ofNat.inj h)
theorem posB_some {s : Bs} {c : Int} {i : Nat} : posB s c = some i ↔ ∃ h : i < s.length, nB s[i] = c /\ ∀ j (hj : j < i), nB (s[j]'(by omega)) ≠ c := by
 unfold posB; rw [List.findIdx?_eq_some_iff_getElem]; constructor
 · rintro ⟨h, h1, h2⟩; exact ⟨h, by simpa using h1, fun j hj => by simpa using h2 j hj⟩
 · rintro ⟨h, h1, h2⟩; exact ⟨h, by simpa using h1, fun j hj => by simpa using h2 j hj⟩
theorem posB_none {s : Bs} {c : Int} : posB s c = none ↔ ∀ j (hj : j < s.length), nB s[j] ≠ c := by
 unfold posB; rw [List.findIdx?_eq_none_iff]; constructor
 · intro h j hj; simpa using h s[j] (List.getElem_mem hj)
 · intro h x hx; obtain ⟨j, hj, rfl⟩ := List.getElem_of_mem hx; simpa using h j hj
theorem qo5 (s : Bs) (c : Int) : qaa s c ≠ [] := by
 cases s with
 | nil => simp [qaa]
 | cons b s =>
  simp only [qaa]; split
  · simp
  · split <;> simp
theorem qd7 (s : Bs) (c : Int) : qaa s c = match posB s c with | some i => s.take i :: qaa (s.drop (i + 1)) c | none => [s] := by
 induction s with
 | nil => simp [qaa, posB]
 | cons b s ih =>
  by_cases hb : nB b = c
  · simp [qaa, posB, List.findIdx?_cons, hb]
  · have h2 : posB (b :: s) c = (posB s c).map (· + 1) := by simp [posB, List.findIdx?_cons, hb]
    simp only [qaa, if_neg hb, h2]; rw [ih]
    cases hp : posB s c with
    | none => simp
    | some i => simp
theorem qfD (s : Bs) (c : Int) : (qaa s c).length <= s.length + 1 := by
 induction s with
 | nil => simp [qaa]
 | cons b s ih =>
  simp only [qaa]; split
  · simp; omega
  · split
    · rename_i h t he; rw [he] at ih; simp at ih ⊢; omega
    · simp
theorem qk6 (s : Bs) (c : Int) : ∀ p ∈ qaa s c, p.length <= s.length := by
 induction s with
 | nil => simp [qaa]
 | cons b s ih =>
  intro p hp; simp only [qaa] at hp; split at hp
  · rcases List.mem_cons.1 hp with rfl | hp
    · simp
    · have := ih p hp; simp; omega
  · split at hp
    · rename_i h t he; rw [he] at ih; rcases List.mem_cons.1 hp with rfl | hp
      · have := ih h List.mem_cons_self; simp; omega
      · have := ih p (List.mem_cons_of_mem _ hp); simp; omega
    · simp at hp; subst hp; simp
theorem qf4 (s : Bs) : qaD s <= s.length := (List.takeWhile_prefix _).length_le
theorem qeM {s : Bs} (h : ¬ qaD s < s.length) : ∀ b ∈ s, qaJ b = true := by
 have h1 : qaD s = s.length := Nat.le_antisymm (qf4 s) (Nat.le_of_not_lt h); unfold qaD at h1; have h2 : s.takeWhile qaJ = s := List.IsPrefix.eq_of_length (List.takeWhile_prefix _) h1; intro b hb; rw [<- h2] at hb; exact List.all_eq_true.1 (List.all_takeWhile ..) b hb
theorem qjh {s : Bs} {j : Nat} (hj : j < qaD s) : ∃ h : j < s.length, qaJ s[j] = true := by
 induction s generalizing j with
 | nil => simp [qaD] at hj
 | cons b s ih =>
  by_cases hb : qaJ b = true
  · have hd : qaD (b :: s) = qaD s + 1 := by simp [qaD, List.takeWhile_cons, hb]
    cases j with
    | zero => exact ⟨by simp, by simpa using hb⟩
    | succ j =>
     obtain ⟨h1, h2⟩ := ih (j := j) (by omega); exact ⟨by simpa using h1, by simpa using h2⟩
  · have hd : qaD (b :: s) = 0 := by simp [qaD, List.takeWhile_cons, hb]
    omega
theorem qio {s : Bs} (h : qaD s < s.length) : qaJ (s[qaD s]) = false := by
 induction s with
 | nil => simp at h
 | cons b s ih =>
  by_cases hb : qaJ b = true
  · have hd : qaD (b :: s) = qaD s + 1 := by simp [qaD, List.takeWhile_cons, hb]
    simp only [hd, List.getElem_cons_succ]; exact ih (by rw [hd] at h; simpa using h)
  · have hd : qaD (b :: s) = 0 := by simp [qaD, List.takeWhile_cons, hb]
    simp only [hd, List.getElem_cons_zero]; exact Bool.eq_false_iff.2 hb
theorem qb9 (b : UInt8) : qaJ b = true ↔ 48 <= nB b /\ nB b <= 57 := by simp [qaJ]
theorem qk7 {n : Int} {b : UInt8} (hn : 0 <= n) (hb : qaJ b = true) : 0 <= qap n b /\ qap n b <= 1099511627776 := by
 rw [qb9] at hb; unfold qap; omega
theorem qgJ (s : Bs) (h : ∀ b ∈ s, qaJ b = true) : ∀ n : Int, 0 <= n -> n <= 1099511627776 -> 0 <= s.foldl qap n /\ s.foldl qap n <= 1099511627776 := by
 induction s with
 | nil => intro n h1 h2; exact ⟨h1, h2⟩
 | cons b s ih =>
  intro n h1 h2; have := qk7 h1 (h b List.mem_cons_self); exact ih (fun c hc => h c (List.mem_cons_of_mem _ hc)) _ this.1 this.2
end Go.Proofs
namespace Go.Proofs
open Go.Am
open Tryz
def nd {α : Type} (x : α) (l r : T α) : T α := .n (some x) l r
def lf {α : Type} (x : α) : T α := .n (some x) .e .e
noncomputable def qw4 : T TypeDesc := (nd t0.desc (nd t1.desc (nd t3.desc (nd t7.desc (.n none .e (nd t47.desc .e (.n none .e (lf t239.desc)))) (nd t23.desc (nd t38.desc (.n none .e (lf t199.desc)) .e) (.n none (.n none .e (lf t215.desc)) .e))) (.n none (.n none (nd t34.desc .e (lf t99.desc)) (.n none (.n none (lf t147.desc) .e) .e)) (nd t27.desc (nd t43.desc .e (.n none .e (lf t217.desc))) (.n none .e (.n none (lf t187.desc) (lf t251.desc)))))) (nd t5.desc (nd t9.desc (.n none (lf t32.desc) .e) (.n none (nd t41.desc .e (lf t104.desc)) (.n none (.n none .e (lf t217.desc)) .e))) (.n none (.n none (nd t36.desc (.n none .e (lf t197.desc)) (lf t101.desc)) (.n none (.n none (lf t148.desc) .e) .e)) (nd t3.desc (nd t44.desc (.n none .e (lf t204.desc)) .e) .e)))) (nd t2.desc (nd t4.desc (.n none (.n none (nd t32.desc .e (.n none (lf t160.desc) .e)) (nd t47.desc (.n none .e (lf t3.desc)) .e)) (nd t23.desc (nd t40.desc .e (lf t104.desc)) .e)) (.n none (.n none (nd t36.desc .e (lf t100.desc)) (nd t52.desc (.n none (lf t148.desc) .e) .e)) (.n none (nd t44.desc (.n none .e (lf t204.desc)) .e) .e))) (nd t5.desc (.n none (.n none (nd t34.desc .e (.n none (lf t162.desc) .e)) .e) (.n none (nd t41.desc (.n none .e (lf t202.desc)) (lf t106.desc)) .e)) (.n none (nd t22.desc (nd t38.desc (lf t70.desc) (lf t102.desc)) .e) (.n none .e (.n none .e (lf t34.desc)))))))
noncomputable def qw3 : T Nat := (nd 1 (nd 1 (nd 1 (nd 4 (.n none .e (nd 11 .e (.n none .e (lf 1)))) (nd 3 (nd 8 (.n none .e (lf 1)) .e) (.n none (.n none .e (lf 1)) .e))) (.n none (.n none (nd 3 .e (lf 1)) (.n none (.n none (lf 1) .e) .e)) (nd 1 (nd 1 .e (.n none .e (lf 1))) (.n none .e (.n none (lf 1) (lf 1)))))) (nd 1 (nd 1 (.n none (lf 2) .e) (.n none (nd 19 .e (lf 4)) (.n none (.n none .e (lf 1)) .e))) (.n none (.n none (nd 3 (.n none .e (lf 1)) (lf 1)) (.n none (.n none (lf 1) .e) .e)) (nd 1 (nd 3 (.n none .e (lf 1)) .e) .e)))) (nd 1 (nd 1 (.n none (.n none (nd 2 .e (.n none (lf 1) .e)) (nd 11 (.n none .e (lf 1)) .e)) (nd 3 (nd 1 .e (lf 4)) .e)) (.n none (.n none (nd 3 .e (lf 1)) (nd 1 (.n none (lf 1) .e) .e)) (.n none (nd 3 (.n none .e (lf 1)) .e) .e))) (nd 1 (.n none (.n none (nd 3 .e (.n none (lf 1) .e)) .e) (.n none (nd 19 (.n none .e (lf 1)) (lf 1)) .e)) (.n none (nd 1 (nd 8 (lf 1) (lf 1)) .e) (.n none .e (.n none .e (lf 3)))))))
noncomputable def qwZ : T Nat := (nd 0 (nd 8 (nd 8 (nd 24 (.n none .e (nd 96 .e (.n none .e (lf 8)))) (nd 48 (nd 48 (.n none .e (lf 24)) .e) (.n none (.n none .e (lf 4)) .e))) (.n none (.n none (nd 24 .e (lf 8)) (.n none (.n none (lf 8) .e) .e)) (nd 8 (nd 24 .e (.n none .e (lf 8))) (.n none .e (.n none (lf 8) (lf 8)))))) (nd 1 (nd 16 (.n none (lf 16) .e) (.n none (nd 176 .e (lf 32)) (.n none (.n none .e (lf 8)) .e))) (.n none (.n none (nd 24 (.n none .e (lf 8)) (lf 8)) (.n none (.n none (lf 8) .e) .e)) (nd 8 (nd 72 (.n none .e (lf 8)) .e) .e)))) (nd 8 (nd 1 (.n none (.n none (nd 16 .e (.n none (lf 24) .e)) (nd 96 (.n none .e (lf 8)) .e)) (nd 48 (nd 24 .e (lf 32)) .e)) (.n none (.n none (nd 24 .e (lf 8)) (nd 24 (.n none (lf 8) .e) .e)) (.n none (nd 72 (.n none .e (lf 8)) .e) .e))) (nd 1 (.n none (.n none (nd 24 .e (.n none (lf 8) .e)) .e) (.n none (nd 176 (.n none .e (lf 24)) (lf 8)) .e)) (.n none (nd 24 (nd 48 (lf 24) (lf 8)) .e) (.n none .e (.n none .e (lf 24)))))))
noncomputable def qw5 : T AV := (nd (.tup []) (nd (.nilf) (nd (.int .i64 0) (nd (.agg [.int .i64 0, .int .i64 0, .bool false, .int .u8 0]) (.n none .e (nd (.agg [.str [], .str [], .str [], .str [], .bool false, .bool false, .bool false, .bool false, .int .i64 0, .int .i64 0, .int .i64 0]) .e (.n none .e (lf (.nilp))))) (nd (.agg [.str [], .str [], .str []]) (nd (.agg [.str [], .bool false, .bool false, .bool false, .bool false, .int .i64 0, .int .i64 0, .int .i64 0]) (.n none .e (lf (.nils))) .e) (.n none (.n none .e (lf (.int .u32 0))) .e))) (.n none (.n none (nd (.agg [.int .i64 0, .int .i64 0, .int .i64 0]) .e (lf (.nilm))) (.n none (.n none (lf (.nilm)) .e) .e)) (nd (.nilp) (nd (.nils) .e (.n none .e (lf (.int .u64 0)))) (.n none .e (.n none (lf (.int .u64 0)) (lf (.nilp))))))) (nd (.int .u8 0) (nd (.str []) (.n none (lf (.agg [.int .i64 0, .int .i64 0])) .e) (.n none (nd (.agg [.int .i64 0, .int .i64 0, .int .i64 0, .int .i64 0, .int .i64 0, .int .i64 0, .int .i64 0, .str [], .str [], .str [], .str [], .bool false, .bool false, .bool false, .bool false, .int .i64 0, .int .i64 0, .int .i64 0, .nils]) .e (lf (.agg [.nilm, .nilm, .nilm, .nilp]))) (.n none (.n none .e (lf (.int .u64 0))) .e))) (.n none (.n none (nd (.agg [.int .i64 0, .int .i64 0, .int .i64 0]) (.n none .e (lf (.nilf))) (lf (.nilm))) (.n none (.n none (lf (.agg [.nilm])) .e) .e)) (nd (.int .i64 0) (nd (.agg [.nils, .nils, .nils]) (.n none .e (lf (.nilf))) .e) .e)))) (nd (.int .i64 0) (nd (.bool false) (.n none (.n none (nd (.agg [.int .i64 0, .int .i64 0]) .e (.n none (lf (.nils)) .e)) (nd (.agg [.str [], .str [], .str [], .str [], .bool false, .bool false, .bool false, .bool false, .int .i64 0, .int .i64 0, .int .i64 0]) (.n none .e (lf (.int .i64 0))) .e)) (nd (.agg [.str [], .str [], .str []]) (nd (.nils) .e (lf (.agg [.nilm, .nilm, .nilm, .nilp]))) .e)) (.n none (.n none (nd (.agg [.int .i64 0, .int .i64 0, .int .i64 0]) .e (lf (.nilm))) (nd (.nils) (.n none (lf (.agg [.nilm])) .e) .e)) (.n none (nd (.agg [.nils, .nils, .nils]) (.n none .e (lf (.nilf))) .e) .e))) (nd (.int .u8 0) (.n none (.n none (nd (.agg [.int .i64 0, .int .i64 0, .int .i64 0]) .e (.n none (lf (.nilf)) .e)) .e) (.n none (nd (.agg [.int .i64 0, .int .i64 0, .int .i64 0, .int .i64 0, .int .i64 0, .int .i64 0, .int .i64 0, .str [], .str [], .str [], .str [], .bool false, .bool false, .bool false, .bool false, .int .i64 0, .int .i64 0, .int .i64 0, .nils]) (.n none .e (lf (.nils))) (lf (.nilf))) .e)) (.n none (nd (.nils) (nd (.agg [.str [], .bool false, .bool false, .bool false, .bool false, .int .i64 0, .int .i64 0, .int .i64 0]) (lf (.nils)) (lf (.nilp))) .e) (.n none .e (.n none .e (lf (.agg [.int .i64 0, .int .i64 0, .int .i64 0]))))))))
noncomputable def qwY : T Bool := (nd false (nd false (nd false (nd true (.n none .e (nd true .e (.n none .e (lf false)))) (nd true (nd true (.n none .e (lf false)) .e) (.n none (.n none .e (lf false)) .e))) (.n none (.n none (nd true .e (lf false)) (.n none (.n none (lf false) .e) .e)) (nd false (nd false .e (.n none .e (lf false))) (.n none .e (.n none (lf false) (lf false)))))) (nd false (nd false (.n none (lf true) .e) (.n none (nd true .e (lf true)) (.n none (.n none .e (lf false)) .e))) (.n none (.n none (nd true (.n none .e (lf false)) (lf false)) (.n none (.n none (lf true) .e) .e)) (nd false (nd true (.n none .e (lf false)) .e) .e)))) (nd false (nd false (.n none (.n none (nd true .e (.n none (lf false) .e)) (nd true (.n none .e (lf false)) .e)) (nd true (nd false .e (lf true)) .e)) (.n none (.n none (nd true .e (lf false)) (nd false (.n none (lf true) .e) .e)) (.n none (nd true (.n none .e (lf false)) .e) .e))) (nd false (.n none (.n none (nd true .e (.n none (lf false) .e)) .e) (.n none (nd true (.n none .e (lf false)) (lf false)) .e)) (.n none (nd false (nd true (lf false) (lf false)) .e) (.n none .e (.n none .e (lf true)))))))
noncomputable def qwK : T Bool := (nd false (nd false (nd false (nd false (.n none .e (nd false .e (.n none .e (lf false)))) (nd false (nd false (.n none .e (lf false)) .e) (.n none (.n none .e (lf false)) .e))) (.n none (.n none (nd false .e (lf false)) (.n none (.n none (lf false) .e) .e)) (nd false (nd false .e (.n none .e (lf false))) (.n none .e (.n none (lf false) (lf false)))))) (nd false (nd false (.n none (lf false) .e) (.n none (nd false .e (lf false)) (.n none (.n none .e (lf false)) .e))) (.n none (.n none (nd false (.n none .e (lf false)) (lf false)) (.n none (.n none (lf false) .e) .e)) (nd false (nd false (.n none .e (lf false)) .e) .e)))) (nd false (nd false (.n none (.n none (nd false .e (.n none (lf false) .e)) (nd false (.n none .e (lf false)) .e)) (nd false (nd false .e (lf false)) .e)) (.n none (.n none (nd false .e (lf false)) (nd false (.n none (lf false) .e) .e)) (.n none (nd false (.n none .e (lf false)) .e) .e))) (nd false (.n none (.n none (nd false .e (.n none (lf false) .e)) .e) (.n none (nd false (.n none .e (lf false)) (lf false)) .e)) (.n none (nd false (nd false (lf false) (lf false)) .e) (.n none .e (.n none .e (lf false)))))))
noncomputable def qw2 : T Bool := (nd false (nd false (nd false (nd false (.n none .e (nd false .e (.n none .e (lf false)))) (nd false (nd false (.n none .e (lf false)) .e) (.n none (.n none .e (lf false)) .e))) (.n none (.n none (nd false .e (lf false)) (.n none (.n none (lf false) .e) .e)) (nd false (nd false .e (.n none .e (lf false))) (.n none .e (.n none (lf false) (lf false)))))) (nd false (nd false (.n none (lf false) .e) (.n none (nd false .e (lf false)) (.n none (.n none .e (lf false)) .e))) (.n none (.n none (nd false (.n none .e (lf false)) (lf false)) (.n none (.n none (lf false) .e) .e)) (nd false (nd false (.n none .e (lf false)) .e) .e)))) (nd false (nd false (.n none (.n none (nd false .e (.n none (lf false) .e)) (nd false (.n none .e (lf false)) .e)) (nd false (nd false .e (lf false)) .e)) (.n none (.n none (nd false .e (lf false)) (nd false (.n none (lf false) .e) .e)) (.n none (nd false (.n none .e (lf false)) .e) .e))) (nd false (.n none (.n none (nd false .e (.n none (lf false) .e)) .e) (.n none (nd false (.n none .e (lf false)) (lf false)) .e)) (.n none (nd false (nd false (lf false) (lf false)) .e) (.n none .e (.n none .e (lf false)))))))
noncomputable def qw1 : T Func := (.n none (.n none (nd f3 (.n none (nd f15 (.n none (nd f63 (.n none (lf f255) .e) (lf f191)) (.n none (lf f159) (lf f223))) (.n none (nd f79 (lf f143) (lf f207)) (nd f111 (lf f175) .e))) (nd f23 (nd f39 (nd f71 (nd f135 (lf f263) .e) .e) (.n none (lf f167) (lf f231))) (.n none (.n none (lf f151) .e) (nd f119 (lf f183) .e)))) (.n none (nd f19 (.n none (nd f67 (.n none (lf f259) .e) .e) (.n none (lf f163) (lf f227))) (.n none (.n none (lf f147) .e) (nd f115 (lf f179) (lf f243)))) (.n none (.n none (nd f75 (.n none (lf f267) .e) (lf f203)) (nd f107 (lf f171) (lf f235))) (.n none (.n none (lf f155) (lf f219)) (nd f123 (lf f187) (lf f251)))))) (.n none (.n none (nd f17 (.n none (nd f65 .e (lf f193)) (.n none .e (lf f225))) (.n none (nd f81 (lf f145) .e) (nd f113 (lf f177) (lf f241)))) (nd f25 (.n none (nd f73 (.n none (lf f265) .e) .e) (.n none .e (lf f233))) (.n none (.n none (lf f153) .e) (nd f121 (lf f185) (lf f249))))) (nd f13 (nd f21 (.n none (nd f69 (.n none (lf f261) .e) .e) (.n none .e (lf f229))) (.n none (.n none (lf f149) .e) (nd f117 (lf f181) .e))) (.n none (.n none (nd f77 (nd f141 (lf f269) .e) (lf f205)) (nd f109 (lf f173) .e)) (.n none (.n none (lf f157) (lf f221)) (.n none (lf f189) (lf f253))))))) (.n none (.n none (.n none (nd f16 (.n none (nd f64 .e (lf f192)) (nd f96 (lf f160) (lf f224))) (.n none (nd f80 (lf f144) (lf f208)) (nd f112 (lf f176) (lf f240)))) (.n none (.n none (nd f72 (nd f136 (lf f264) .e) .e) (.n none .e (lf f232))) (.n none (.n none (lf f152) .e) (nd f120 (lf f184) .e)))) (nd f12 (nd f20 (.n none (nd f68 (.n none (lf f260) .e) .e) (.n none (lf f164) (lf f228))) (.n none (.n none (lf f148) .e) (nd f116 (lf f180) (lf f244)))) (.n none (.n none (nd f76 (.n none (lf f268) .e) (lf f204)) (nd f108 (lf f172) (lf f236))) (.n none (.n none (lf f156) (lf f220)) (nd f124 (lf f188) (lf f252)))))) (.n none (.n none (nd f18 (.n none (nd f66 (.n none (lf f258) .e) (lf f194)) (.n none .e (lf f226))) (.n none (.n none (lf f146) .e) (nd f114 (lf f178) (lf f242)))) (.n none (.n none (nd f74 (.n none (lf f266) .e) .e) (.n none .e (lf f234))) (.n none (.n none (lf f154) .e) (nd f122 (lf f186) (lf f250))))) (nd f14 (nd f22 (.n none (nd f70 (.n none (lf f262) .e) .e) (.n none .e (lf f230))) (.n none (.n none (lf f150) .e) (nd f118 (lf f182) .e))) (.n none (.n none (nd f78 (nd f142 (lf f270) .e) .e) (nd f110 (lf f174) .e)) (.n none (nd f94 (lf f158) (lf f222)) (.n none (lf f190) (lf f254))))))))
noncomputable def qw0 : T Nat := qmJ [(136, 4), (244, 1)]
noncomputable def Tryz.tab : Tab := { und := qw4, siz := qw3, byt := qwZ, zer := qw5, agg := qwY, cmp := .e, held := qwK, grd := qw2, fns := qw1, ext := qw0, merge := fun _ => false }
end Go.Proofs
namespace Go.Proofs
open Go Go.Am
def qv0 : FuncId := 3
def zz36 : FuncId := 12
def zz60 : FuncId := 13
def zz79 : FuncId := 16
def qvy : FuncId := 17
def zz33 : FuncId := 18
def zz65 : FuncId := 19
def zz78 : FuncId := 20
def zz96 : FuncId := 21
def zz80 : FuncId := 22
def zz83 : FuncId := 23
def zz64 : FuncId := 25
def zz76 : FuncId := 39
def zz61 : FuncId := 63
def qvc : FuncId := 65
def qvj : FuncId := 74
def zz21 : FuncId := 75
def zz59 : FuncId := 76
def zz74 : FuncId := 78
def zz94 : FuncId := 79
def zz43 : FuncId := 80
def zz24 : FuncId := 81
def zz77 : FuncId := 94
def zz72 : FuncId := 96
def qvr : FuncId := 107
def qu9 : FuncId := 108
def zz71 : FuncId := 109
def zz87 : FuncId := 110
def zz62 : FuncId := 113
def qvt : FuncId := 114
def zz92 : FuncId := 115
def zz93 : FuncId := 116
def zz95 : FuncId := 117
def zz48 : FuncId := 118
def qvk : FuncId := 119
def zz63 : FuncId := 121
def zz82 : FuncId := 122
def zz9 : FuncId := 123
def zz52 : FuncId := 124
def zz73 : FuncId := 135
def qvq : FuncId := 141
def qvx : FuncId := 143
def qvl : FuncId := 144
def zz69 : FuncId := 145
def zz50 : FuncId := 146
def qv3 : FuncId := 147
def qvh : FuncId := 148
def qvi : FuncId := 149
def qvm : FuncId := 150
def qvd : FuncId := 151
def qvg : FuncId := 152
def qva : FuncId := 154
def zz25 : FuncId := 155
def zz91 : FuncId := 157
def qvn : FuncId := 160
def zz31 : FuncId := 163
def zz29 : FuncId := 164
def zz26 : FuncId := 167
def qvs : FuncId := 171
def zz98 : FuncId := 172
def zz42 : FuncId := 173
def zz51 : FuncId := 174
def zz40 : FuncId := 175
def zz46 : FuncId := 176
def zz89 : FuncId := 177
def qvf : FuncId := 178
def qve : FuncId := 179
def zz55 : FuncId := 180
def zz70 : FuncId := 184
def zz32 : FuncId := 203
def zz22 : FuncId := 204
def zz23 : FuncId := 205
def zz20 : FuncId := 207
def zz6 : FuncId := 208
def qvb : FuncId := 219
def zz28 : FuncId := 221
def zz41 : FuncId := 222
def zz15 : FuncId := 223
def zz99 : FuncId := 224
def zz27 : FuncId := 225
def zz44 : FuncId := 226
def zz47 : FuncId := 227
def zz45 : FuncId := 228
def zz81 : FuncId := 230
def zz16 : FuncId := 240
def zz17 : FuncId := 241
def zz30 : FuncId := 242
def zz75 : FuncId := 243
def zz90 : FuncId := 249
def zz14 : FuncId := 250
def zz13 : FuncId := 251
def zz10 : FuncId := 252
def zz58 : FuncId := 258
def Ty.string : TypeId := 9
def qpk : TypeId := 24
def qpj : TypeId := 33
def Ty.Dot : TypeId := 35
def qrk : TypeId := 42
def qws : TypeId := 45
def qtz : TypeId := 48
def qvG : TypeId := 126
noncomputable abbrev sTab : Tab := Tryz.tab
end Go.Proofs
namespace Go.Proofs
open Go Go.Am Go.RowKit Go.Sy
variable [Inhabited DrP]
noncomputable def vwS : TypeId -> Option View := fun t => bif Nat.beq t Ty.string then some ⟨Bs, qbb⟩ else none
noncomputable def cfgS (con : FuncId -> Option Con) (ann : FuncId -> Nat -> Option Ann) : Cfg := { tab := sTab, view := vwS, con, ann }
def qaQ {Y : Type} : Y -> FuncId -> Nat -> Option Ann := fun _ _ _ => none
def qaL (f r : Nat) (A : Ann) : FuncId -> Nat -> Option Ann := fun g s => bif Nat.beq g f && Nat.beq s r then some A else none
def i64 (n : Int) : SV := .int .i64 n
def strs (l : List Bs) : SV := .lst Bs l qbb
def qmw : Con := { Y := Bs × Int, pre := fun y => y.1.length <= 1000000, args := fun y => [.str y.1, .int .u8 y.2], res := fun y => i64 (qct y.1 y.2) }
def qpn (y : Bs × Int) : Ann := { α := Nat, ok := fun i => i <= y.1.length /\ ∀ j (h : j < y.1.length), j < i -> nB y.1[j] ≠ y.2, μ := fun i => y.1.length - i, keep := [], slots := fun i => [(0, .str y.1), (1, .int .u8 y.2), (5, i64 (-1)), (8, i64 (Int.ofNat y.1.length)), (9, i64 i)], objs := fun _ => [] }
def cCut : Con := { Y := Bs × Int, pre := fun y => y.1.length <= 1000000, args := fun y => [.str y.1, .int .u8 y.2], res := fun y => .tup [.str (cutB y.1 y.2).1, .str (cutB y.1 y.2).2.1, .bool (cutB y.1 y.2).2.2] }
def qhA : Con := { Y := Bs × Int, pre := fun y => y.1.length <= 100000, args := fun y => [.str y.1, .int .u8 y.2], res := fun y => strs (qaa y.1 y.2) }
def qle (y : Bs × Int) : Ann := { α := Bs × List Bs, ok := fun x => qaa y.1 y.2 = x.2 ++ qaa x.1 y.2 /\ x.2.length + x.1.length <= y.1.length, μ := fun x => x.1.length, keep := [], slots := fun x => [(0, .str x.1), (1, .int .u8 y.2), (5, .own 0)], objs := fun x => [(0, .arr Bs x.2 qbb Ty.string)] }
def cDig : Con := { Y := UInt8, pre := fun _ => True, args := fun y => [.int .u8 (nB y)], res := fun y => .bool (qaJ y) }
def qmv : Con := { Y := Bs, pre := fun y => y.length <= 1000000, args := fun y => [.str y], res := fun y => i64 (qaD y) }
def qpm (y : Bs) : Ann := { α := Nat, ok := fun i => i <= qaD y, μ := fun i => y.length - i, keep := [], slots := fun i => [(0, .str y), (3, i64 i)], objs := fun _ => [] }
def cNum : Con := { Y := Bs, pre := fun y => y.length <= 1000000, args := fun y => [.str y], res := fun y => .tup [i64 (numB y).1, .bool (numB y).2] }
def aNum (y : Bs) : Ann := { α := Nat, ok := fun i => i <= (absN y).length /\ ∀ b ∈ absN y, qaJ b = true, μ := fun i => (absN y).length - i, keep := [], slots := fun i => [(4, .str (absN y)), (5, i64 (if negB y then -1 else 1)), (6, i64 (((absN y).take i).foldl qap 0)), (28, i64 (Int.ofNat (absN y).length)), (29, i64 i)], objs := fun _ => [] }
def qlb (y : Bs × Int) : Ann := { α := Nat, ok := fun i => i <= y.1.length /\ ∀ j (h : j < y.1.length), j < i -> nB y.1[j] ≠ y.2, μ := fun i => y.1.length - i, keep := [], slots := fun i => [(0, .str y.1), (1, .int .u8 y.2), (5, i64 i)], objs := fun _ => [] }
def qfk (y : Bs × Int) : Ann := { α := Nat × Nat × List Bs, ok := fun x => x.1 <= x.2.1 /\ x.2.1 <= y.1.length /\ qaa y.1 y.2 = x.2.2 ++ qaa (y.1.drop x.1) y.2 /\ x.2.2.length <= x.1 /\ ∀ j (h : j < y.1.length), x.1 <= j -> j < x.2.1 -> nB y.1[j] ≠ y.2, μ := fun x => y.1.length - x.2.1, keep := [], slots := fun x => [(0, .str y.1), (1, .int .u8 y.2), (5, .own 0), (6, i64 x.1), (7, i64 x.2.1)], objs := fun x => [(0, .arr Bs x.2.2 qbb Ty.string)] }
def qdq (y : Bs) : Ann := { α := Nat, ok := fun i => i <= y.length, μ := fun i => y.length - i, keep := [], slots := fun i => [(0, .str y), (3, i64 (Int.ofNat (min i (qaD y)))), (4, i64 i)], objs := fun _ => [] }
def qao (y : Bs) : Nat := if negB y then 1 else 0
def qcR (y : Bs) : Ann := { α := Nat, ok := fun i => qao y <= i /\ i <= y.length /\ ∀ b ∈ absN y, qaJ b = true, μ := fun i => y.length - i, keep := [], slots := fun i => [(0, .str y), (4, i64 (Int.ofNat (qao y))), (5, i64 (((absN y).take (i - qao y)).foldl qap 0)), (6, i64 i)], objs := fun _ => [] }
def qr1 : Con := { Y := Nat, pre := fun y => y <= 1099511627776, args := fun y => [i64 y], res := fun y => .str (qdl y) }
def qpp (y : Nat) : Ann := { α := Nat × Nat × Bs, ok := fun x => x.1 <= 30 /\ x.2.2.length <= 30 /\ qdl y = qfF (10 + x.1) x.2.1 ++ x.2.2 /\ x.2.2.length + x.1 <= 30 /\ x.2.1 < 10 ^ (x.1 + 1) /\ x.2.1 <= y, μ := fun x => x.2.1, keep := [], slots := fun x => [(0, i64 x.2.1), (3, .str x.2.2)], objs := fun _ => [] }
noncomputable def qpC (f : FuncId) : Option Con := bif Nat.beq f zz27 then some qmw else none
noncomputable def qpD (f : FuncId) : Option Con := bif Nat.beq f zz89 then some cCut else qpC f
noncomputable def qpE (f : FuncId) : Option Con := bif Nat.beq f zz20 then some qhA else bif Nat.beq f zz58 then some cDig else qpD f
noncomputable def qmA (f : FuncId) : Option Con := bif Nat.beq f zz13 then some qmv else bif Nat.beq f zz16 then some qmv else qpE f
noncomputable def qtX (f : FuncId) : Option Con := bif Nat.beq f zz14 then some cNum else bif Nat.beq f zz17 then some cNum else bif Nat.beq f zz29 then some qmw else bif Nat.beq f zz22 then some qhA else bif Nat.beq f zz30 then some qr1 else qmA f
noncomputable def con0 (_ : FuncId) : Option Con := none
end Go.Proofs
set_option maxHeartbeats 4000000
namespace Go.Proofs
open Go Go.Am Go.RowKit Go.Sy
variable [Inhabited DrP]
theorem quZ : (askY (fun (y : Con.Y qmw) => cfgS con0 (qaL zz27 3 (qpn y))) 400 zz27) = (∀ (y : Bs × Int),
 y.1.length <= 1000000 ->
 (∃ (x : Nat),
 (x <= y.1.length /\ ∀ (j : Nat) (h : j < y.1.length), j < x -> eqI (nB y.1[j]) y.2 -> False) /\
 (y.1 = y.1 /\
 eqI y.2 y.2 /\
 eqI (-1) (-1) /\ eqI (Int.ofNat y.1.length) (Int.ofNat y.1.length) /\ eqI 0 ↑x /\ True) /\
 True /\ True) /\
 ∀ (x : Nat),
 (x <= y.1.length /\ ∀ (j : Nat) (h : j < y.1.length), j < x -> eqI (nB y.1[j]) y.2 -> False) ->
 br (ltI (↑x) (Int.ofNat y.1.length))
 (so y.1[Int.toNat ↑x]? fun (val : UInt8) =>
 br (Int.ofNat (UInt8.toNat val) == y.2) (eqI (↑x) (qct y.1 y.2) /\ True)
 (ck (inR .i64 (↑x + 1))
 (∃ (y_1 : Nat),
 (y_1 <= y.1.length /\ ∀ (j : Nat) (h : j < y.1.length), j < y_1 -> eqI (nB y.1[j]) y.2 -> False) /\
 Ann.μ (qpn y) y_1 < Ann.μ (qpn y) x /\
 (y.1 = y.1 /\
 eqI y.2 y.2 /\
 eqI (-1) (-1) /\ eqI (Int.ofNat y.1.length) (Int.ofNat y.1.length) /\ eqI (↑x + 1) ↑y_1 /\ True) /\
 True /\ True)))
 (eqI (-1) (qct y.1 y.2) /\ True)) := by kernel_rfl
theorem qvV : (askY (fun (y : Con.Y cCut) => cfgS qpC (qaQ y)) 400 zz89) = (∀ (y : Bs × Int),
 y.1.length <= 1000000 ->
 ∃ (y_1 : Bs × Int),
 y.1 = y_1.1 /\
 eqI y.2 y_1.2 /\
 y_1.1.length <= 1000000 /\
 br (ltI (qct y_1.1 y_1.2) 0)
 (y.1 = Prod.fst (cutB y.1 y.2) /\
 Array.toList (ByteArray.data { data := #[] }) = Prod.fst (Prod.snd (cutB y.1 y.2)) /\
 Bool.false = Prod.snd (Prod.snd (cutB y.1 y.2)) /\ True)
 (ck (nn (qct y_1.1 y_1.2))
 (ck (Nat.ble (Int.toNat (qct y_1.1 y_1.2)) y.1.length)
 (ck (inR .i64 (qct y_1.1 y_1.2 + 1))
 (ck (nn (qct y_1.1 y_1.2 + 1))
 (ck (Nat.ble (Int.toNat (qct y_1.1 y_1.2 + 1)) y.1.length)
 (List.take (Int.toNat (qct y_1.1 y_1.2)) y.1 = Prod.fst (cutB y.1 y.2) /\
 List.drop (Int.toNat (qct y_1.1 y_1.2 + 1)) y.1 = Prod.fst (Prod.snd (cutB y.1 y.2)) /\
 Bool.true = Prod.snd (Prod.snd (cutB y.1 y.2)) /\ True))))))) := by kernel_rfl
theorem qts : (askY (fun (y : Con.Y qhA) => cfgS qpD (qaL zz20 2 (qle y))) 400 zz20) = (∀ (y : Bs × Int),
 y.1.length <= 100000 ->
 (∃ (x : Bs × List Bs),
 (qaa y.1 y.2 = x.2 ++ qaa x.1 y.2 /\
 x.2.length + x.1.length <= y.1.length) /\
 (y.1 = x.1 /\ eqI y.2 y.2 /\ True /\ True) /\
 ((x.2 = [] /\ ∀ (x : Bs), List.length (qbb x) = 1) /\ True) /\ True) /\
 ∀ (x : Bs × List Bs),
 qaa y.1 y.2 = x.2 ++ qaa x.1 y.2 /\
 x.2.length + x.1.length <= y.1.length ->
 ∃ (y_1 : Bs × Int),
 x.1 = y_1.1 /\
 eqI y.2 y_1.2 /\
 y_1.1.length <= 1000000 /\
 ∃ (x_1 : Bs),
 [SV.str x_1] = [SV.str (Prod.fst (cutB y_1.1 y_1.2))] /\
 ck (Nat.ble ((x.2.length + List.length [x_1]) * 16) 16777216 && Nat.ble (x.2.length + List.length [x_1]) 16777216)
 (br (!Prod.snd (Prod.snd (cutB y_1.1 y_1.2)))
 (SV.lst Bs (x.2 ++ [x_1]) qbb = SV.lst Bs (qaa y.1 y.2) qbb /\
 True)
 (∃ (y_2 : Bs × List Bs),
 (qaa y.1 y.2 = y_2.2 ++ qaa y_2.1 y.2 /\
 y_2.2.length + y_2.1.length <= y.1.length) /\
 Ann.μ (qle y) y_2 < Ann.μ (qle y) x /\
 (Prod.fst (Prod.snd (cutB y_1.1 y_1.2)) = y_2.1 /\ eqI y.2 y.2 /\ True /\ True) /\
 (SV.lst Bs (x.2 ++ [x_1]) qbb = SV.lst Bs y_2.2 qbb /\ True) /\ True))) := by kernel_rfl
theorem qvW : (askY (fun (y : Con.Y cDig) => cfgS con0 (qaQ y)) 400 zz58) = (∀ (y : UInt8), True -> br (leI 48 (nB y)) (leI (nB y) 57 = qaJ y /\ True) (Bool.false = qaJ y /\ True)) := by kernel_rfl
theorem quY : (askY (fun (y : Con.Y qmv) => cfgS qpE (qaL zz13 2 (qpm y))) 400 zz13) = (∀ (y : List UInt8),
 y.length <= 1000000 ->
 (∃ (x : Nat), x <= qaD y /\ (y = y /\ eqI 0 ↑x /\ True) /\ True /\ True) /\
 ∀ (x : Nat),
 x <= qaD y ->
 br (ltI (↑x) (Int.ofNat y.length))
 (so y[Int.toNat ↑x]? fun (val : UInt8) =>
 ∃ (y_1 : UInt8),
 eqI (Int.ofNat (UInt8.toNat val)) (nB y_1) /\
 True /\
 br (qaJ y_1)
 (ck (inR .i64 (↑x + 1))
 (∃ (y_2 : Nat),
 y_2 <= qaD y /\
 Ann.μ (qpm y) y_2 < Ann.μ (qpm y) x /\ (y = y /\ eqI (↑x + 1) ↑y_2 /\ True) /\ True /\ True))
 (eqI ↑x ↑(qaD y) /\ True))
 (eqI ↑x ↑(qaD y) /\ True)) := by kernel_rfl
theorem qvX : (askY (fun (y : Con.Y cNum) => cfgS qmA (qaL zz14 8 (aNum y))) 400 zz14) = (∀ (y : List UInt8),
 y.length <= 1000000 ->
 br (!y == Array.toList (ByteArray.data { data := #[] }))
 (so y[Int.toNat 0]? fun (val : UInt8) =>
 br (Int.ofNat (UInt8.toNat val) == 45)
 (ck (Nat.ble (Int.toNat 1) y.length)
 (br (List.drop (Int.toNat 1) y == Array.toList (ByteArray.data { data := #[] }))
 (eqI 0 (Prod.fst (numB y)) /\ Bool.false = Prod.snd (numB y) /\ True)
 (∃ (y_1 : List UInt8),
 List.drop (Int.toNat 1) y = y_1 /\
 y_1.length <= 1000000 /\
 br (ltI (↑(qaD y_1)) (Int.ofNat (List.length (List.drop (Int.toNat 1) y))))
 (eqI 0 (Prod.fst (numB y)) /\ Bool.false = Prod.snd (numB y) /\ True)
 ((∃ (x : Nat),
 (x <= List.length (absN y) /\ ∀ (b : UInt8), b ∈ absN y -> qaJ b = Bool.true) /\
 (List.drop (Int.toNat 1) y = absN y /\
 eqI (-1) (if negB y = Bool.true then -1 else 1) /\
 eqI 0 (List.foldl qap 0 (List.take x (absN y))) /\
 eqI (Int.ofNat (List.length (List.drop (Int.toNat 1) y))) (Int.ofNat (List.length (absN y))) /\ eqI 0 ↑x /\ True) /\
 True /\ True) /\
 ∀ (x : Nat),
 (x <= List.length (absN y) /\ ∀ (b : UInt8), b ∈ absN y -> qaJ b = Bool.true) ->
 br (ltI (↑x) (Int.ofNat (List.length (absN y))))
 (ck (inR .i64 (List.foldl qap 0 (List.take x (absN y)) * 10))
 (so (absN y)[Int.toNat ↑x]? fun (val : UInt8) =>
 ck
 (inR .i64
 (List.foldl qap 0 (List.take x (absN y)) * 10 +
 Go.IntKind.wrap .i64 (Go.IntKind.wrap Go.IntKind.u8 (Int.ofNat (UInt8.toNat val) - 48))))
 (ck (inR .i64 (↑x + 1))
 (∃ (y_2 : Nat),
 (y_2 <= List.length (absN y) /\ ∀ (b : UInt8), b ∈ absN y -> qaJ b = Bool.true) /\
 Ann.μ (aNum y) y_2 < Ann.μ (aNum y) x /\
 (absN y = absN y /\
 eqI (if negB y = Bool.true then -1 else 1) (if negB y = Bool.true then -1 else 1) /\
 eqI
 (if
 1099511627776 <
 List.foldl qap 0 (List.take x (absN y)) * 10 +
 Go.IntKind.wrap .i64 (Go.IntKind.wrap Go.IntKind.u8 (Int.ofNat (UInt8.toNat val) - 48)) then
 1099511627776
 else
 List.foldl qap 0 (List.take x (absN y)) * 10 +
 Go.IntKind.wrap .i64 (Go.IntKind.wrap Go.IntKind.u8 (Int.ofNat (UInt8.toNat val) - 48)))
 (List.foldl qap 0 (List.take y_2 (absN y))) /\
 eqI (Int.ofNat (List.length (absN y))) (Int.ofNat (List.length (absN y))) /\
 eqI (↑x + 1) ↑y_2 /\ True) /\
 True /\ True))))
 (ck
 (inR .i64 ((if negB y = Bool.true then -1 else 1) * List.foldl qap 0 (List.take x (absN y))))
 (eqI ((if negB y = Bool.true then -1 else 1) * List.foldl qap 0 (List.take x (absN y)))
 (Prod.fst (numB y)) /\
 Bool.true = Prod.snd (numB y) /\ True))))))
 (br (y == Array.toList (ByteArray.data { data := #[] })) (eqI 0 (Prod.fst (numB y)) /\ Bool.false = Prod.snd (numB y) /\ True)
 (∃ (y_1 : List UInt8),
 y = y_1 /\
 y_1.length <= 1000000 /\
 br (ltI (↑(qaD y_1)) (Int.ofNat y.length))
 (eqI 0 (Prod.fst (numB y)) /\ Bool.false = Prod.snd (numB y) /\ True)
 ((∃ (x : Nat),
 (x <= List.length (absN y) /\ ∀ (b : UInt8), b ∈ absN y -> qaJ b = Bool.true) /\
 (y = absN y /\
 eqI 1 (if negB y = Bool.true then -1 else 1) /\
 eqI 0 (List.foldl qap 0 (List.take x (absN y))) /\
 eqI (Int.ofNat y.length) (Int.ofNat (List.length (absN y))) /\ eqI 0 ↑x /\ True) /\
 True /\ True) /\
 ∀ (x : Nat),
 (x <= List.length (absN y) /\ ∀ (b : UInt8), b ∈ absN y -> qaJ b = Bool.true) ->
 br (ltI (↑x) (Int.ofNat (List.length (absN y))))
 (ck (inR .i64 (List.foldl qap 0 (List.take x (absN y)) * 10))
 (so (absN y)[Int.toNat ↑x]? fun (val : UInt8) =>
 ck
 (inR .i64
 (List.foldl qap 0 (List.take x (absN y)) * 10 +
 Go.IntKind.wrap .i64 (Go.IntKind.wrap Go.IntKind.u8 (Int.ofNat (UInt8.toNat val) - 48))))
 (ck (inR .i64 (↑x + 1))
 (∃ (y_2 : Nat),
 (y_2 <= List.length (absN y) /\ ∀ (b : UInt8), b ∈ absN y -> qaJ b = Bool.true) /\
 Ann.μ (aNum y) y_2 < Ann.μ (aNum y) x /\
 (absN y = absN y /\
 eqI (if negB y = Bool.true then -1 else 1) (if negB y = Bool.true then -1 else 1) /\
 eqI
 (if
 1099511627776 <
 List.foldl qap 0 (List.take x (absN y)) * 10 +
 Go.IntKind.wrap .i64 (Go.IntKind.wrap Go.IntKind.u8 (Int.ofNat (UInt8.toNat val) - 48)) then
 1099511627776
 else
 List.foldl qap 0 (List.take x (absN y)) * 10 +
 Go.IntKind.wrap .i64 (Go.IntKind.wrap Go.IntKind.u8 (Int.ofNat (UInt8.toNat val) - 48)))
 (List.foldl qap 0 (List.take y_2 (absN y))) /\
 eqI (Int.ofNat (List.length (absN y))) (Int.ofNat (List.length (absN y))) /\
 eqI (↑x + 1) ↑y_2 /\ True) /\
 True /\ True))))
 (ck (inR .i64 ((if negB y = Bool.true then -1 else 1) * List.foldl qap 0 (List.take x (absN y))))
 (eqI ((if negB y = Bool.true then -1 else 1) * List.foldl qap 0 (List.take x (absN y)))
 (Prod.fst (numB y)) /\
 Bool.true = Prod.snd (numB y) /\ True))))))
 (br (y == Array.toList (ByteArray.data { data := #[] })) (eqI 0 (Prod.fst (numB y)) /\ Bool.false = Prod.snd (numB y) /\ True)
 (∃ (y_1 : List UInt8),
 y = y_1 /\
 y_1.length <= 1000000 /\
 br (ltI (↑(qaD y_1)) (Int.ofNat y.length))
 (eqI 0 (Prod.fst (numB y)) /\ Bool.false = Prod.snd (numB y) /\ True)
 ((∃ (x : Nat),
 (x <= List.length (absN y) /\ ∀ (b : UInt8), b ∈ absN y -> qaJ b = Bool.true) /\
 (y = absN y /\
 eqI 1 (if negB y = Bool.true then -1 else 1) /\
 eqI 0 (List.foldl qap 0 (List.take x (absN y))) /\
 eqI (Int.ofNat y.length) (Int.ofNat (List.length (absN y))) /\ eqI 0 ↑x /\ True) /\
 True /\ True) /\
 ∀ (x : Nat),
 (x <= List.length (absN y) /\ ∀ (b : UInt8), b ∈ absN y -> qaJ b = Bool.true) ->
 br (ltI (↑x) (Int.ofNat (List.length (absN y))))
 (ck (inR .i64 (List.foldl qap 0 (List.take x (absN y)) * 10))
 (so (absN y)[Int.toNat ↑x]? fun (val : UInt8) =>
 ck
 (inR .i64
 (List.foldl qap 0 (List.take x (absN y)) * 10 +
 Go.IntKind.wrap .i64 (Go.IntKind.wrap Go.IntKind.u8 (Int.ofNat (UInt8.toNat val) - 48))))
 (ck (inR .i64 (↑x + 1))
 (∃ (y_2 : Nat),
 (y_2 <= List.length (absN y) /\ ∀ (b : UInt8), b ∈ absN y -> qaJ b = Bool.true) /\
 Ann.μ (aNum y) y_2 < Ann.μ (aNum y) x /\
 (absN y = absN y /\
 eqI (if negB y = Bool.true then -1 else 1) (if negB y = Bool.true then -1 else 1) /\
 eqI
 (if
 1099511627776 <
 List.foldl qap 0 (List.take x (absN y)) * 10 +
 Go.IntKind.wrap .i64 (Go.IntKind.wrap Go.IntKind.u8 (Int.ofNat (UInt8.toNat val) - 48)) then
 1099511627776
 else
 List.foldl qap 0 (List.take x (absN y)) * 10 +
 Go.IntKind.wrap .i64 (Go.IntKind.wrap Go.IntKind.u8 (Int.ofNat (UInt8.toNat val) - 48)))
 (List.foldl qap 0 (List.take y_2 (absN y))) /\
 eqI (Int.ofNat (List.length (absN y))) (Int.ofNat (List.length (absN y))) /\
 eqI (↑x + 1) ↑y_2 /\ True) /\
 True /\ True))))
 (ck (inR .i64 ((if negB y = Bool.true then -1 else 1) * List.foldl qap 0 (List.take x (absN y))))
 (eqI ((if negB y = Bool.true then -1 else 1) * List.foldl qap 0 (List.take x (absN y)))
 (Prod.fst (numB y)) /\
 Bool.true = Prod.snd (numB y) /\ True)))))) := by kernel_rfl
theorem qtl : (askY (fun (y : Con.Y qmw) => cfgS con0 (qaL zz29 2 (qlb y))) 400 zz29) = (∀ (y : Bs × Int),
 y.1.length <= 1000000 ->
 (∃ (x : Nat),
 (x <= y.1.length /\ ∀ (j : Nat) (h : j < y.1.length), j < x -> eqI (nB y.1[j]) y.2 -> False) /\
 (y.1 = y.1 /\ eqI y.2 y.2 /\ eqI 0 ↑x /\ True) /\ True /\ True) /\
 ∀ (x : Nat),
 (x <= y.1.length /\ ∀ (j : Nat) (h : j < y.1.length), j < x -> eqI (nB y.1[j]) y.2 -> False) ->
 br (ltI (↑x) (Int.ofNat y.1.length))
 (so y.1[Int.toNat ↑x]? fun (val : UInt8) =>
 br (Int.ofNat (UInt8.toNat val) == y.2) (eqI (↑x) (qct y.1 y.2) /\ True)
 (ck (inR .i64 (↑x + 1))
 (∃ (y_1 : Nat),
 (y_1 <= y.1.length /\ ∀ (j : Nat) (h : j < y.1.length), j < y_1 -> eqI (nB y.1[j]) y.2 -> False) /\
 Ann.μ (qlb y) y_1 < Ann.μ (qlb y) x /\
 (y.1 = y.1 /\ eqI y.2 y.2 /\ eqI (↑x + 1) ↑y_1 /\ True) /\ True /\ True)))
 (eqI (-1) (qct y.1 y.2) /\ True)) := by kernel_rfl
theorem qrf : (askY (fun (y : Con.Y qhA) => cfgS con0 (qaL zz22 4 (qfk y))) 400 zz22) = (∀ (y : Bs × Int),
 y.1.length <= 100000 ->
 (∃ (x : Nat × Nat × List Bs),
 (x.1 <= x.2.1 /\
 x.2.1 <= y.1.length /\
 qaa y.1 y.2 = x.2.2 ++ qaa (List.drop x.1 y.1) y.2 /\
 x.2.2.length <= x.1 /\
 ∀ (j : Nat) (h : j < y.1.length), x.1 <= j -> j < x.2.1 -> eqI (nB y.1[j]) y.2 -> False) /\
 (y.1 = y.1 /\ eqI y.2 y.2 /\ True /\ eqI 0 ↑x.1 /\ eqI 0 ↑x.2.1 /\ True) /\
 (SV.lst (View.X { X := Bs, enc := qbb }) [] (View.enc { X := Bs, enc := qbb }) =
 SV.lst Bs x.2.2 qbb /\
 True) /\
 True) /\
 ∀ (x : Nat × Nat × List Bs),
 (x.1 <= x.2.1 /\
 x.2.1 <= y.1.length /\
 qaa y.1 y.2 = x.2.2 ++ qaa (List.drop x.1 y.1) y.2 /\
 x.2.2.length <= x.1 /\
 ∀ (j : Nat) (h : j < y.1.length), x.1 <= j -> j < x.2.1 -> eqI (nB y.1[j]) y.2 -> False) ->
 br (ltI (↑x.2.1) (Int.ofNat y.1.length))
 (so y.1[Int.toNat ↑x.2.1]? fun (val : UInt8) =>
 br (Int.ofNat (UInt8.toNat val) == y.2)
 (ck (Nat.ble (Int.toNat ↑x.1) (Int.toNat ↑x.2.1) && Nat.ble (Int.toNat ↑x.2.1) y.1.length)
 (∃ (x_1 : Bs),
 [SV.str x_1] =
 [SV.str (List.take (Int.toNat ↑x.2.1 - Int.toNat ↑x.1) (List.drop (Int.toNat ↑x.1) y.1))] /\
 ck
 (Nat.ble ((x.2.2.length + List.length [x_1]) * 16) 16777216 &&
 Nat.ble (x.2.2.length + List.length [x_1]) 16777216)
 (ck (inR .i64 (↑x.2.1 + 1))
 (ck (inR .i64 (↑x.2.1 + 1))
 (∃ (y_1 : Nat × Nat × List Bs),
 (y_1.1 <= y_1.2.1 /\
 y_1.2.1 <= y.1.length /\
 qaa y.1 y.2 = y_1.2.2 ++ qaa (List.drop y_1.1 y.1) y.2 /\
 y_1.2.2.length <= y_1.1 /\
 ∀ (j : Nat) (h : j < y.1.length),
 y_1.1 <= j -> j < y_1.2.1 -> eqI (nB y.1[j]) y.2 -> False) /\
 Ann.μ (qfk y) y_1 < Ann.μ (qfk y) x /\
 (y.1 = y.1 /\
 eqI y.2 y.2 /\
 True /\
 eqI (↑x.2.1 + 1) ↑y_1.1 /\ eqI (↑x.2.1 + 1) ↑y_1.2.1 /\ True) /\
 (SV.lst Bs (x.2.2 ++ [x_1]) qbb =
 SV.lst Bs y_1.2.2 qbb /\
 True) /\
 True)))))
 (ck (inR .i64 (↑x.2.1 + 1))
 (∃ (y_1 : Nat × Nat × List Bs),
 (y_1.1 <= y_1.2.1 /\
 y_1.2.1 <= y.1.length /\
 qaa y.1 y.2 = y_1.2.2 ++ qaa (List.drop y_1.1 y.1) y.2 /\
 y_1.2.2.length <= y_1.1 /\
 ∀ (j : Nat) (h : j < y.1.length),
 y_1.1 <= j -> j < y_1.2.1 -> eqI (nB y.1[j]) y.2 -> False) /\
 Ann.μ (qfk y) y_1 < Ann.μ (qfk y) x /\
 (y.1 = y.1 /\
 eqI y.2 y.2 /\
 True /\ eqI ↑x.1 ↑y_1.1 /\ eqI (↑x.2.1 + 1) ↑y_1.2.1 /\ True) /\
 (SV.lst Bs x.2.2 qbb = SV.lst Bs y_1.2.2 qbb /\ True) /\ True)))
 (ck (Nat.ble (Int.toNat ↑x.1) y.1.length)
 (∃ (x_1 : Bs),
 [SV.str x_1] = [SV.str (List.drop (Int.toNat ↑x.1) y.1)] /\
 ck
 (Nat.ble ((x.2.2.length + List.length [x_1]) * 16) 16777216 &&
 Nat.ble (x.2.2.length + List.length [x_1]) 16777216)
 (SV.lst Bs (x.2.2 ++ [x_1]) qbb =
 SV.lst Bs (qaa y.1 y.2) qbb /\
 True)))) := by kernel_rfl
theorem qtj : (askY (fun (y : Con.Y qmv) => cfgS con0 (qaL zz16 3 (qdq y))) 400 zz16) = (∀ (y : List UInt8),
 y.length <= 1000000 ->
 (∃ (x : Nat), x <= y.length /\ (y = y /\ eqI 0 (Int.ofNat (Min.min x (qaD y))) /\ eqI 0 ↑x /\ True) /\ True /\ True) /\
 ∀ (x : Nat),
 x <= y.length ->
 br (ltI (↑x) (Int.ofNat y.length))
 (br (Int.ofNat (Min.min x (qaD y)) == ↑x)
 (so y[Int.toNat ↑x]? fun (val : UInt8) =>
 br (leI 48 (Int.ofNat (UInt8.toNat val)))
 (so y[Int.toNat ↑x]? fun (val : UInt8) =>
 br (leI (Int.ofNat (UInt8.toNat val)) 57)
 (ck (inR .i64 (Int.ofNat (Min.min x (qaD y)) + 1))
 (ck (inR .i64 (↑x + 1))
 (∃ (y_1 : Nat),
 y_1 <= y.length /\
 Ann.μ (qdq y) y_1 < Ann.μ (qdq y) x /\
 (y = y /\ eqI (Int.ofNat (Min.min x (qaD y)) + 1) (Int.ofNat (Min.min y_1 (qaD y))) /\ eqI (↑x + 1) ↑y_1 /\ True) /\
 True /\ True)))
 (ck (inR .i64 (↑x + 1))
 (∃ (y_1 : Nat),
 y_1 <= y.length /\
 Ann.μ (qdq y) y_1 < Ann.μ (qdq y) x /\
 (y = y /\ eqI (Int.ofNat (Min.min x (qaD y))) (Int.ofNat (Min.min y_1 (qaD y))) /\ eqI (↑x + 1) ↑y_1 /\ True) /\
 True /\ True)))
 (ck (inR .i64 (↑x + 1))
 (∃ (y_1 : Nat),
 y_1 <= y.length /\
 Ann.μ (qdq y) y_1 < Ann.μ (qdq y) x /\
 (y = y /\ eqI (Int.ofNat (Min.min x (qaD y))) (Int.ofNat (Min.min y_1 (qaD y))) /\ eqI (↑x + 1) ↑y_1 /\ True) /\
 True /\ True)))
 (ck (inR .i64 (↑x + 1))
 (∃ (y_1 : Nat),
 y_1 <= y.length /\
 Ann.μ (qdq y) y_1 < Ann.μ (qdq y) x /\
 (y = y /\ eqI (Int.ofNat (Min.min x (qaD y))) (Int.ofNat (Min.min y_1 (qaD y))) /\ eqI (↑x + 1) ↑y_1 /\ True) /\
 True /\ True)))
 (eqI (Int.ofNat (Min.min x (qaD y))) ↑(qaD y) /\ True)) := by kernel_rfl
theorem qu4 : (askY (fun (y : Con.Y cNum) => cfgS qmA (qaL zz17 8 (qcR y))) 400 zz17) = (∀ (y : List UInt8),
 y.length <= 1000000 ->
 br (ltI 0 (Int.ofNat y.length))
 (so y[Int.toNat 0]? fun (val : UInt8) =>
 br (Int.ofNat (UInt8.toNat val) == 45)
 (br (Int.ofNat y.length == 1) (eqI 0 (Prod.fst (numB y)) /\ Bool.false = Prod.snd (numB y) /\ True)
 (ck (Nat.ble (Int.toNat 1) y.length)
 (∃ (y_1 : List UInt8),
 List.drop (Int.toNat 1) y = y_1 /\
 y_1.length <= 1000000 /\
 ck (inR .i64 (Int.ofNat y.length - 1))
 (br (ltI (↑(qaD y_1)) (Int.ofNat y.length - 1))
 (eqI 0 (Prod.fst (numB y)) /\ Bool.false = Prod.snd (numB y) /\ True)
 ((∃ (x : Nat),
 (qao y <= x /\ x <= y.length /\ ∀ (b : UInt8), b ∈ absN y -> qaJ b = Bool.true) /\
 (y = y /\
 eqI 1 (Int.ofNat (qao y)) /\
 eqI 0 (List.foldl qap 0 (List.take (x - qao y) (absN y))) /\ eqI 1 ↑x /\ True) /\
 True /\ True) /\
 ∀ (x : Nat),
 (qao y <= x /\ x <= y.length /\ ∀ (b : UInt8), b ∈ absN y -> qaJ b = Bool.true) ->
 br (ltI (↑x) (Int.ofNat y.length))
 (ck (inR .i64 (List.foldl qap 0 (List.take (x - qao y) (absN y)) * 10))
 (so y[Int.toNat ↑x]? fun (val : UInt8) =>
 ck
 (inR .i64
 (List.foldl qap 0 (List.take (x - qao y) (absN y)) * 10 +
 Go.IntKind.wrap .i64 (Int.ofNat (UInt8.toNat val))))
 (ck
 (inR .i64
 (List.foldl qap 0 (List.take (x - qao y) (absN y)) * 10 +
 Go.IntKind.wrap .i64 (Int.ofNat (UInt8.toNat val)) -
 48))
 (br
 (ltI 1099511627776
 (List.foldl qap 0 (List.take (x - qao y) (absN y)) * 10 +
 Go.IntKind.wrap .i64 (Int.ofNat (UInt8.toNat val)) -
 48))
 (ck (inR .i64 (↑x + 1))
 (∃ (y_2 : Nat),
 (qao y <= y_2 /\ y_2 <= y.length /\ ∀ (b : UInt8), b ∈ absN y -> qaJ b = Bool.true) /\
 Ann.μ (qcR y) y_2 < Ann.μ (qcR y) x /\
 (y = y /\
 eqI (Int.ofNat (qao y)) (Int.ofNat (qao y)) /\
 eqI 1099511627776 (List.foldl qap 0 (List.take (y_2 - qao y) (absN y))) /\
 eqI (↑x + 1) ↑y_2 /\ True) /\
 True /\ True))
 (ck (inR .i64 (↑x + 1))
 (∃ (y_2 : Nat),
 (qao y <= y_2 /\ y_2 <= y.length /\ ∀ (b : UInt8), b ∈ absN y -> qaJ b = Bool.true) /\
 Ann.μ (qcR y) y_2 < Ann.μ (qcR y) x /\
 (y = y /\
 eqI (Int.ofNat (qao y)) (Int.ofNat (qao y)) /\
 eqI
 (List.foldl qap 0 (List.take (x - qao y) (absN y)) * 10 +
 Go.IntKind.wrap .i64 (Int.ofNat (UInt8.toNat val)) -
 48)
 (List.foldl qap 0 (List.take (y_2 - qao y) (absN y))) /\
 eqI (↑x + 1) ↑y_2 /\ True) /\
 True /\ True))))))
 (br (Int.ofNat (qao y) == 1)
 (ck (inR .i64 (0 - List.foldl qap 0 (List.take (x - qao y) (absN y))))
 (eqI (0 - List.foldl qap 0 (List.take (x - qao y) (absN y))) (Prod.fst (numB y)) /\
 Bool.true = Prod.snd (numB y) /\ True))
 (eqI (List.foldl qap 0 (List.take (x - qao y) (absN y))) (Prod.fst (numB y)) /\
 Bool.true = Prod.snd (numB y) /\ True)))))))
 (br (Int.ofNat y.length == 0) (eqI 0 (Prod.fst (numB y)) /\ Bool.false = Prod.snd (numB y) /\ True)
 (∃ (y_1 : List UInt8),
 List.drop (Int.toNat 0) y = y_1 /\
 y_1.length <= 1000000 /\
 ck (inR .i64 (Int.ofNat y.length - 0))
 (br (ltI (↑(qaD y_1)) (Int.ofNat y.length - 0))
 (eqI 0 (Prod.fst (numB y)) /\ Bool.false = Prod.snd (numB y) /\ True)
 ((∃ (x : Nat),
 (qao y <= x /\ x <= y.length /\ ∀ (b : UInt8), b ∈ absN y -> qaJ b = Bool.true) /\
 (y = y /\
 eqI 0 (Int.ofNat (qao y)) /\
 eqI 0 (List.foldl qap 0 (List.take (x - qao y) (absN y))) /\ eqI 0 ↑x /\ True) /\
 True /\ True) /\
 ∀ (x : Nat),
 (qao y <= x /\ x <= y.length /\ ∀ (b : UInt8), b ∈ absN y -> qaJ b = Bool.true) ->
 br (ltI (↑x) (Int.ofNat y.length))
 (ck (inR .i64 (List.foldl qap 0 (List.take (x - qao y) (absN y)) * 10))
 (so y[Int.toNat ↑x]? fun (val : UInt8) =>
 ck
 (inR .i64
 (List.foldl qap 0 (List.take (x - qao y) (absN y)) * 10 +
 Go.IntKind.wrap .i64 (Int.ofNat (UInt8.toNat val))))
 (ck
 (inR .i64
 (List.foldl qap 0 (List.take (x - qao y) (absN y)) * 10 +
 Go.IntKind.wrap .i64 (Int.ofNat (UInt8.toNat val)) -
 48))
 (br
 (ltI 1099511627776
 (List.foldl qap 0 (List.take (x - qao y) (absN y)) * 10 +
 Go.IntKind.wrap .i64 (Int.ofNat (UInt8.toNat val)) -
 48))
 (ck (inR .i64 (↑x + 1))
 (∃ (y_2 : Nat),
 (qao y <= y_2 /\ y_2 <= y.length /\ ∀ (b : UInt8), b ∈ absN y -> qaJ b = Bool.true) /\
 Ann.μ (qcR y) y_2 < Ann.μ (qcR y) x /\
 (y = y /\
 eqI (Int.ofNat (qao y)) (Int.ofNat (qao y)) /\
 eqI 1099511627776 (List.foldl qap 0 (List.take (y_2 - qao y) (absN y))) /\
 eqI (↑x + 1) ↑y_2 /\ True) /\
 True /\ True))
 (ck (inR .i64 (↑x + 1))
 (∃ (y_2 : Nat),
 (qao y <= y_2 /\ y_2 <= y.length /\ ∀ (b : UInt8), b ∈ absN y -> qaJ b = Bool.true) /\
 Ann.μ (qcR y) y_2 < Ann.μ (qcR y) x /\
 (y = y /\
 eqI (Int.ofNat (qao y)) (Int.ofNat (qao y)) /\
 eqI
 (List.foldl qap 0 (List.take (x - qao y) (absN y)) * 10 +
 Go.IntKind.wrap .i64 (Int.ofNat (UInt8.toNat val)) -
 48)
 (List.foldl qap 0 (List.take (y_2 - qao y) (absN y))) /\
 eqI (↑x + 1) ↑y_2 /\ True) /\
 True /\ True))))))
 (br (Int.ofNat (qao y) == 1)
 (ck (inR .i64 (0 - List.foldl qap 0 (List.take (x - qao y) (absN y))))
 (eqI (0 - List.foldl qap 0 (List.take (x - qao y) (absN y))) (Prod.fst (numB y)) /\
 Bool.true = Prod.snd (numB y) /\ True))
 (eqI (List.foldl qap 0 (List.take (x - qao y) (absN y))) (Prod.fst (numB y)) /\
 Bool.true = Prod.snd (numB y) /\ True)))))))
 (br (Int.ofNat y.length == 0) (eqI 0 (Prod.fst (numB y)) /\ Bool.false = Prod.snd (numB y) /\ True)
 (∃ (y_1 : List UInt8),
 List.drop (Int.toNat 0) y = y_1 /\
 y_1.length <= 1000000 /\
 ck (inR .i64 (Int.ofNat y.length - 0))
 (br (ltI (↑(qaD y_1)) (Int.ofNat y.length - 0))
 (eqI 0 (Prod.fst (numB y)) /\ Bool.false = Prod.snd (numB y) /\ True)
 ((∃ (x : Nat),
 (qao y <= x /\ x <= y.length /\ ∀ (b : UInt8), b ∈ absN y -> qaJ b = Bool.true) /\
 (y = y /\
 eqI 0 (Int.ofNat (qao y)) /\
 eqI 0 (List.foldl qap 0 (List.take (x - qao y) (absN y))) /\ eqI 0 ↑x /\ True) /\
 True /\ True) /\
 ∀ (x : Nat),
 (qao y <= x /\ x <= y.length /\ ∀ (b : UInt8), b ∈ absN y -> qaJ b = Bool.true) ->
 br (ltI (↑x) (Int.ofNat y.length))
 (ck (inR .i64 (List.foldl qap 0 (List.take (x - qao y) (absN y)) * 10))
 (so y[Int.toNat ↑x]? fun (val : UInt8) =>
 ck
 (inR .i64
 (List.foldl qap 0 (List.take (x - qao y) (absN y)) * 10 +
 Go.IntKind.wrap .i64 (Int.ofNat (UInt8.toNat val))))
 (ck
 (inR .i64
 (List.foldl qap 0 (List.take (x - qao y) (absN y)) * 10 +
 Go.IntKind.wrap .i64 (Int.ofNat (UInt8.toNat val)) -
 48))
 (br
 (ltI 1099511627776
 (List.foldl qap 0 (List.take (x - qao y) (absN y)) * 10 +
 Go.IntKind.wrap .i64 (Int.ofNat (UInt8.toNat val)) -
 48))
 (ck (inR .i64 (↑x + 1))
 (∃ (y_2 : Nat),
 (qao y <= y_2 /\ y_2 <= y.length /\ ∀ (b : UInt8), b ∈ absN y -> qaJ b = Bool.true) /\
 Ann.μ (qcR y) y_2 < Ann.μ (qcR y) x /\
 (y = y /\
 eqI (Int.ofNat (qao y)) (Int.ofNat (qao y)) /\
 eqI 1099511627776 (List.foldl qap 0 (List.take (y_2 - qao y) (absN y))) /\
 eqI (↑x + 1) ↑y_2 /\ True) /\
 True /\ True))
 (ck (inR .i64 (↑x + 1))
 (∃ (y_2 : Nat),
 (qao y <= y_2 /\ y_2 <= y.length /\ ∀ (b : UInt8), b ∈ absN y -> qaJ b = Bool.true) /\
 Ann.μ (qcR y) y_2 < Ann.μ (qcR y) x /\
 (y = y /\
 eqI (Int.ofNat (qao y)) (Int.ofNat (qao y)) /\
 eqI
 (List.foldl qap 0 (List.take (x - qao y) (absN y)) * 10 +
 Go.IntKind.wrap .i64 (Int.ofNat (UInt8.toNat val)) -
 48)
 (List.foldl qap 0 (List.take (y_2 - qao y) (absN y))) /\
 eqI (↑x + 1) ↑y_2 /\ True) /\
 True /\ True))))))
 (br (Int.ofNat (qao y) == 1)
 (ck (inR .i64 (0 - List.foldl qap 0 (List.take (x - qao y) (absN y))))
 (eqI (0 - List.foldl qap 0 (List.take (x - qao y) (absN y))) (Prod.fst (numB y)) /\
 Bool.true = Prod.snd (numB y) /\ True))
 (eqI (List.foldl qap 0 (List.take (x - qao y) (absN y))) (Prod.fst (numB y)) /\
 Bool.true = Prod.snd (numB y) /\ True))))))) := by kernel_rfl
theorem qu7 : (askY (fun (y : Con.Y qr1) => cfgS con0 (qaL zz30 6 (qpp y))) 400 zz30) = (∀ (y : Nat),
 y <= 1099511627776 ->
 (∃ (x : Nat × Nat × Bs),
 (x.1 <= 30 /\
 x.2.2.length <= 30 /\
 qdl y = qfF (10 + x.1) x.2.1 ++ x.2.2 /\
 x.2.2.length + x.1 <= 30 /\ x.2.1 < 10 ^ (x.1 + 1) /\ x.2.1 <= y) /\
 (eqI ↑y ↑x.2.1 /\ Array.toList (ByteArray.data { data := #[] }) = x.2.2 /\ True) /\ True /\ True) /\
 ∀ (x : Nat × Nat × Bs),
 x.1 <= 30 /\
 x.2.2.length <= 30 /\
 qdl y = qfF (10 + x.1) x.2.1 ++ x.2.2 /\
 x.2.2.length + x.1 <= 30 /\ x.2.1 < 10 ^ (x.1 + 1) /\ x.2.1 <= y ->
 br (ltI 9 ↑x.2.1)
 (ck (inR .i64 (48 + Int.tmod (↑x.2.1) 10))
 (∃ (c : List UInt8),
 [SV.int Go.IntKind.u8 (Go.IntKind.wrap Go.IntKind.u8 (48 + Int.tmod (↑x.2.1) 10))] = qky c /\
 ck (Nat.ble (c.length + x.2.2.length) 1048576)
 (ck (inR .i64 (Int.tdiv (↑x.2.1) 10))
 (∃ (y_1 : Nat × Nat × Bs),
 (y_1.1 <= 30 /\
 y_1.2.2.length <= 30 /\
 qdl y = qfF (10 + y_1.1) y_1.2.1 ++ y_1.2.2 /\
 y_1.2.2.length + y_1.1 <= 30 /\ y_1.2.1 < 10 ^ (y_1.1 + 1) /\ y_1.2.1 <= y) /\
 Ann.μ (qpp y) y_1 < Ann.μ (qpp y) x /\
 (eqI (Int.tdiv (↑x.2.1) 10) ↑y_1.2.1 /\ c ++ x.2.2 = y_1.2.2 /\ True) /\
 True /\ True))))
 (ck (inR .i64 (48 + ↑x.2.1))
 (∃ (c : List UInt8),
 [SV.int Go.IntKind.u8 (Go.IntKind.wrap Go.IntKind.u8 (48 + ↑x.2.1))] = qky c /\
 ck (Nat.ble (c.length + x.2.2.length) 1048576) (c ++ x.2.2 = qdl y /\ True)))) := by kernel_rfl
end Go.Proofs
namespace Go.Proofs
open Go Go.Am
theorem Tryz.h1 : Tryz.tab.und.reval Tryz.prog.underlying = Tryz.tab.und := by kernel_rfl
theorem Tryz.h2 : Tryz.tab.siz.reval (fun t => (Tryz.prog.info? t).map (·.size)) = Tryz.tab.siz := by kernel_rfl
theorem Tryz.h3 : Tryz.tab.byt.reval (fun t => (Tryz.prog.info? t).map (·.bytes)) = Tryz.tab.byt := by kernel_rfl
theorem Tryz.h4 : Tryz.tab.zer.reval (fun t => ((Tryz.prog.info? t).bind (·.zero)).map qep) = Tryz.tab.zer := by kernel_rfl
theorem Tryz.h5 : Tryz.tab.agg.reval (fun t => (Tryz.prog.underlying t).map qrU) = Tryz.tab.agg := by kernel_rfl
theorem Tryz.h6 : Tryz.tab.held.reval (fun t => some (Tryz.prog.stoodInHeld t)) = Tryz.tab.held := by kernel_rfl
theorem Tryz.h7 : Tryz.tab.grd.reval (fun t => some (Tryz.prog.eqGuardType Tryz.prog.depth t)) = Tryz.tab.grd := by kernel_rfl
theorem Tryz.h8 : Tryz.tab.fns.reval (fun f => Tryz.prog.funcs[f]?) = Tryz.tab.fns := by kernel_rfl
theorem Tryz.h9 : Tryz.tab.fns.all (fun fn => !(fn.name == "runtime.NumGoroutine")) = true := by kernel_rfl
theorem Tryz.tabOk : TabOK Tryz.prog Tryz.tab := TabOK.of Tryz.h1 Tryz.h2 Tryz.h3 Tryz.h4 Tryz.h5 Tryz.h6 Tryz.h7 Tryz.h8 Tryz.h9
end Go.Proofs
namespace Go.Proofs
open Go Go.Am Go.RowKit
variable [Inhabited DrP]
theorem Tryz.fn136 : Tryz.tab.fns.get 136 = some Tryz.f136 := by kernel_rfl
theorem qxe : Extern.findNext Tryz.f136 = none := by kernel_rfl
theorem qw8 : Extern.find Tryz.f136 = some (qis 4 Tryz.f136) := by kernel_rfl
theorem Tryz.fn244 : Tryz.tab.fns.get 244 = some Tryz.f244 := by kernel_rfl
theorem qxf : Extern.findNext Tryz.f244 = none := by kernel_rfl
theorem qw9 : Extern.find Tryz.f244 = some (qis 1 Tryz.f244) := by kernel_rfl
theorem qwM : ExtTab Tryz.prog Tryz.tab := qwt [(136, 4), (244, 1)] rfl (by
 intro x hx; simp only [List.mem_cons, List.not_mem_nil, or_false] at hx; rcases hx with rfl | rfl
 · exact ⟨_, Tryz.fn136, qxe, qw8⟩
 · exact ⟨_, Tryz.fn244, qxf, qw9⟩)
theorem Tryz.mix : Tryz.prog.follows .mixedOrders = true := by kernel_rfl
theorem zz1 : Go.Sy.PrOK Tryz.prog Tryz.tab := ⟨Tryz.tabOk, qud Tryz.tabOk qwM, Tryz.mix⟩
end Go.Proofs
