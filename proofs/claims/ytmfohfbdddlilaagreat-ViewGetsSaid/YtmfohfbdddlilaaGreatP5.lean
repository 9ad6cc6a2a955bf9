/- An evaluator over symbolic values, proved sound over the model's machine, and its use at this seat; no condition. Part 5. -/
import Derived.WalkKit
import Derived.LoopTactic
import Derived.DataReads
import Derived.ChangeArms
import Derived.ProofKit
import Derived.OpenShut
import Derived.Test.YtmfohfbdddlilaaGreatP4
set_option linter.unusedSimpArgs false
set_option linter.unusedVariables false
set_option linter.unusedSectionVars false
set_option linter.deprecated false
set_option maxRecDepth 100000
set_option maxHeartbeats 8000000
namespace Go.Proofs
open Go Go.Am Go.RowKit Go.Sy Go.Gm
theorem qqv {bk ba bd bv i j : Nat} {G : GMap} {k : CKey} {L : DL} {K : List (CDot × (Value × CEvent))} {V : List ((Int × Int) × Int)} {N : Nat} (hal : getL G.alive k = none) (hj : N <= j) (hi : i < N) (h : qav bk ba bd bv ⟨K, qaq G.alive k (j, L), G.dead, V⟩ i) : qav bk ba bd bv G i := by
 unfold qav at h ⊢; rw [show (qaq G.alive k (j, L)).map (fun x => x.2.1) = G.alive.map (fun x => x.2.1) ++ [j] from qgR hal] at h; simp only [List.mem_cons, List.mem_append, List.not_mem_nil, or_false] at h ⊢; rcases h with h | h | h | h | h | h
 · exact .inl h
 · exact .inr (.inl h)
 · exact .inr (.inr (.inl h))
 · exact .inr (.inr (.inr (.inl h)))
 · exact .inr (.inr (.inr (.inr h)))
 · omega
theorem qqw {bk ba bd bv i j : Nat} {G : GMap} {k : CKey} {L L' : DL} {K : List (CDot × (Value × CEvent))} {V : List ((Int × Int) × Int)} (hn : (G.alive.map (·.1)).Nodup) (hal : getL G.alive k = some (j, L)) (h : qav bk ba bd bv ⟨K, qaq G.alive k (j, L'), G.dead, V⟩ i) : qav bk ba bd bv G i := by
 unfold qav at h ⊢; rw [show (qaq G.alive k (j, L')).map (fun x => x.2.1) = G.alive.map (fun x => x.2.1) from qgQ hn hal rfl] at h; exact h
theorem qkJ {G : GMap} (hn : (G.alive.map (·.1)).Nodup) (d : CDot) {j : Nat} (h : j ∈ (qdK G d).alive.map (·.2.1)) : j ∈ G.alive.map (·.2.1) := by
 unfold qdK at h; simp only at h; split at h
 · split at h
   · unfold qhq at h; split at h
     · exact h
     · rename_i x hx; split at h
       · obtain ⟨y, hy, rfl⟩ := List.mem_map.1 h; exact List.mem_map.2 ⟨y, (List.mem_filter.1 hy).1, rfl⟩
       · rw [show (qaq G.alive _ (x.1, delL x.2 d)).map (fun x => x.2.1) = G.alive.map (fun x => x.2.1) from qgQ hn hx rfl] at h; exact h
   · exact h
 · exact h
theorem qhI {G : GMap} {l : List CDot} {k : Nat} (h : k < l.length) : qcw G (l.take (k + 1)) = qdK (qcw G (l.take k)) l[k] := by
 unfold qcw; rw [List.take_succ_eq_append_getElem h, List.foldl_append]; rfl
theorem qv7 {w : World} {n b bk ba bd bs bv : Nat} {G : GMap} {m : CMap} {e : CEvent} {u : Value} (h : OMW w n b bk ba bd bs bv G) (hg : GRel G m) (hn : n <= w.heap.size) (hu : EvV w u e) (hse : qcK e) (hover : e.over.length <= 100000) (hseq : ∀ a i, 0 <= getM m.ctx a i /\ getM m.ctx a i <= 4294967296)
  (q1 : qa7 e = true) (q2 : hasM m.ctx e.dot = false) (q3 : getM m.ctx e.dot.dev e.dot.inc + 1 = e.dot.seq) (q4 : ¬ 2048 <= m.kept.length) :
  Calls Tryz.prog 15 #[.pointer (some ⟨b, 0, none⟩), u] w fun e' w' => e' = .returned (.tuple #[.bool true, .int .i64 0]) /\ But (qav bk ba bd bv G) w w' /\ ∃ G', OMW w' n b bk ba bd bs bv G' /\ GRel G' (qay m e).1 := by
 obtain ⟨v, hu, hd⟩ := hu; obtain ⟨va, vn, vc, hve⟩ := hd.one; obtain ⟨cs, hcs⟩ : ∃ cs : Array Value, Hid ((qah e v).toArray = cs) := ⟨_, rfl⟩; have hu' : u = .agg cs := by rw [hu, <- (show (qah e v).toArray = cs from hcs)]; rfl
 have hev0 : EvV w (.agg cs) e := ⟨v, by rw [<- hu', hu], hd⟩; clear hu; subst hu'; obtain ⟨SZ, mm, hSZ, hsz, hm⟩ := qeV; obtain ⟨W, hW⟩ : ∃ W, w.alloc (.cells cs 42) = W := ⟨_, rfl⟩; have hb : Below w.heap.size w W := by rw [<- hW]; exact (Below.refl w.heap.size w).alloc (Nat.le_refl _) _
 have hs : W.heap.size = w.heap.size + 1 := by rw [<- hW]; simp
 have hr : W.rangeAt w.heap.size 0 (qah e v) := by rw [<- hW, <- (show (qah e v).toArray = cs from hcs)]; exact qcA w e v
 have h0 := h.below hb; have hright := qvp (hev0.cells (zz2 hb)) hse; obtain ⟨k0, k1, k2, k6, k18, kl⟩ := boxF hr hcs hm; rw [q1] at hright; letI : Inhabited DrP := ⟨⟨True, #[]⟩⟩
 have hdot : qbt e.dot = true := qfa q1; have hhas : decide (e.dot.seq <= qdm G.vec e.dot.dev e.dot.inc) = false := by
  have hh : decide (e.dot.seq <= qdm G.vec e.dot.dev e.dot.inc) = hasM m.ctx e.dot := by
   unfold hasM; rw [hdot, Bool.true_and, qaX, hg.vec]
  rw [hh, q2]
 have hwr : IntKind.i64.wrap (getM m.ctx e.dot.dev e.dot.inc + 1) = getM m.ctx e.dot.dev e.dot.inc + 1 := IntWalk.i64_in _ (by have := hseq e.dot.dev e.dot.inc; omega); have hne : (e.dot.seq != getM m.ctx e.dot.dev e.dot.inc + 1) = false := by rw [q3]; simp
 have hl : G.kept.length <= 100000 := by rw [hg.len]; omega
 have hroom : decide (1 <= 2048 - (G.kept.length : Int)) = true := decide_eq_true (by rw [hg.len]; omega); have hprev : (getL G.vec (e.dot.dev, e.dot.inc)).getD 0 = e.dot.seq - 1 := by
  have := hg.vec e.dot.dev e.dot.inc; unfold qdm at this; rw [this]; omega
 have hfin := fun (v : Value) (nb : Nat) => (hg.apply v nb q1 q2 q3 q4).1
 have hfinal : Hid (∀ (v : Value) (nb : Nat), GRel (qgn G e v nb) (qay m e).1) := hfin; clear hfin; have hgv := hg.vec; clear q1 q2 q3 q4 hg; go_enter Tryz.func15, Tryz.ntmps15
 go_wp2_with (go_at_call 65; refine hright.mono ?_; rintro e' w1 ⟨rfl, hb1⟩; have hbf1 := hb.trans (hb1.mono (by omega)); have h1 := h0.below hb1; have r1 := qal (zz2 hb1) hr; obtain ⟨a0, a1, a2, a6, a18, al⟩ := boxF r1 hcs hm; have a3 := h1.c3; have h1d := h1.below (Below.refl w1.heap.size w1).drew; have hv1 := qrj h1d.cv h1d.mv e.dot.dev e.dot.inc e.dot.seq hdot; rw [hhas] at hv1; have hev1 := (hev0.cells (zz2 hb)).cells (zz2 hb1); clear k0 k1 k2 k6 k18 kl h1d)
 go_region_held3 (fun w' => w'.cell? ⟨b, 3, none⟩ = some (.pointer (some ⟨bs, 0, none⟩)) /\ w'.cell? ⟨w.heap.size, 0, none⟩ = some (.int .i64 e.dot.dev) /\ w'.cell? ⟨w.heap.size, 1, none⟩ = some (.int .i64 e.dot.inc) /\ w'.cell? ⟨w.heap.size, 2, none⟩ = some (.int .i64 e.dot.seq)) (simp [*]) (first | (go_at_call 66; refine hv1.mono ?_; rintro e' w2 ⟨rfl, hb2⟩; have hbf2 := hbf1.drew.trans (hb2.mono (by have := hbf1.size; show _ <= w1.heap.size; omega)); have h2 := (h1.below (Below.refl w1.heap.size w1).drew).below hb2; have r2 := qal (zz2 hb2) (qal (zz2 (Below.refl w1.heap.size w1).drew) r1); obtain ⟨b0, b1, b2, b6, b18, bl⟩ := boxF r2 hcs hm; have b3 := h2.c3; have h2d := h2.below (Below.refl w2.heap.size w2).drew; have hv2 := zz57 h2d.cv h2d.mv e.dot.dev e.dot.inc; rw [show (getL G.vec (e.dot.dev, e.dot.inc)).getD 0 = getM m.ctx e.dot.dev e.dot.inc from hgv _ _] at hv2; have hev2 : EvV w2 (.agg cs) e := hev1.cells (fun bb arr t fz hx => zz2 hb2 bb arr t fz hx); clear a0 a1 a2 a6 a18 al a3 hv1 h2d))
 all_goals go_wp2_with fail
 all_goals go_region_held3 (fun w' => w'.cell? ⟨b, 3, none⟩ = some (.pointer (some ⟨bs, 0, none⟩)) /\ w'.cell? ⟨w.heap.size, 0, none⟩ = some (.int .i64 e.dot.dev) /\ w'.cell? ⟨w.heap.size, 1, none⟩ = some (.int .i64 e.dot.inc) /\ w'.cell? ⟨w.heap.size, 2, none⟩ = some (.int .i64 e.dot.seq)) (simp [*]) (first | (go_at_call 67; refine hv2.mono ?_; rintro e' w3 ⟨rfl, hb3⟩; have hbf3 := hbf2.drew.trans (hb3.mono (by have := hbf2.size; show _ <= w2.heap.size; omega)); have h3 := (h2.below (Below.refl w2.heap.size w2).drew).below hb3; have hv3 := Tryz.room h3 hl; rw [hroom] at hv3; have r3 := qal (zz2 hb3) (qal (zz2 (Below.refl w2.heap.size w2).drew) r2); obtain ⟨c0, c1, c2, c6, c18, cl⟩ := boxF r3 hcs hm; have c3 := h3.c3; have hev3 : EvV w3 (.agg cs) e := hev2.cells (fun bb arr t fz hx => zz2 hb3 bb arr t fz hx); clear b0 b1 b2 b6 b18 bl b3 hv2))
 all_goals go_wp2_with (go_at_call 68; refine hv3.mono ?_; rintro e' w4 ⟨rfl, rfl⟩; have h3d := h3.below (Below.refl w4.heap.size w4).drew; have hv4 := qwW h3d.cv h3d.mv e.dot.dev e.dot.inc e.dot.seq (fun hh => qda h3d.cv (by rw [hh]; exact MapIs.isMap h3d.mv)) hdot hprev; clear hv3)
 all_goals go_region_held3 (fun w' => w'.cell? ⟨b, 3, none⟩ = some (.pointer (some ⟨bs, 0, none⟩)) /\ w'.cell? ⟨w.heap.size, 0, none⟩ = some (.int .i64 e.dot.dev) /\ w'.cell? ⟨w.heap.size, 1, none⟩ = some (.int .i64 e.dot.inc) /\ w'.cell? ⟨w.heap.size, 2, none⟩ = some (.int .i64 e.dot.seq)) (simp [*]) (first | (go_at_call 69; refine hv4.mono ?_; rintro e' w5 ⟨rfl, hb5, hmv5⟩; have h5 := h3d.butVec hb5 hmv5; have hbut5 : But (qav bk ba bd bv G) w w5 := (zz7 hbf3.drew).trans (hb5.mono fun k _ hk => by (rw [hk]; unfold qav; simp)); have hc5 : qa6 w4.drew w5 := hb5.cells (fun k hk => by (rw [hk]; exact MapIs.isMap h3d.mv)); have r5 := qal hc5 (qal (zz2 (Below.refl w4.heap.size w4).drew) r3); obtain ⟨d0, d1, d2, d6, d18, dl⟩ := boxF r5 hcs hm; have d3 := h5.c3; have e0 := h5.c0; obtain ⟨-, -, -, -, -, dl'⟩ := boxF (qal (zz2 (Below.refl w5.heap.size w5).drew) r5) hcs hm; have hev5 : EvV w5.drew (.agg cs) e := hev3.cells (fun bb arr t fz hx => hc5 bb arr t fz hx); have hv5 := qwA hev5 hover; clear c0 c1 c2 c6 c18 cl c3 hv4))
 all_goals go_wp2_with fail
 all_goals go_region_held3 (fun w' => w'.cell? ⟨b, 0, none⟩ = some (.map (some bk)) /\ w'.cell? ⟨w.heap.size, 0, none⟩ = some (.int .i64 e.dot.dev) /\ w'.cell? ⟨w.heap.size, 1, none⟩ = some (.int .i64 e.dot.inc) /\ w'.cell? ⟨w.heap.size, 2, none⟩ = some (.int .i64 e.dot.seq) /\ (loadCellsFrom ⟨w.heap.size, 0, none⟩ 0 mm #[]).run Tryz.prog w' = .ok cs w') (simp [*]) (first | (go_at_call 70; refine hv5.mono ?_; rintro e' w6 ⟨u', rfl, hev6, hb6⟩; have h6 := (h5.below (Below.refl w5.heap.size w5).drew).below hb6; have r6 := qal (zz2 hb6) (qal (zz2 (Below.refl w5.heap.size w5).drew) r5); obtain ⟨f0, f1, f2, f6, f18, fl⟩ := boxF r6 hcs hm; have f3 := h6.c0; obtain ⟨es, clk, hup, hmu⟩ := h6.mkp.update zz11 Tryz.underlying99 e.dot (u', e); rw [show encD e.dot = .agg #[.int .i64 e.dot.dev, .int .i64 e.dot.inc, .int .i64 e.dot.seq] from rfl, show qkz (u', e) = u' from rfl] at hup; have h7 := h6.setKept (x := (u', e)) hev6 hmu; have hbut6 : But (qav bk ba bd bv G) w w6 := hbut5.drew.trans (zz7 hb6); have hbut7 : But (qav bk ba bd bv G) w (World.setO w6 bk (.map es clk)) := hbut6.trans (qgi (MapIs.isMap h6.mkp) (by (unfold qav; simp))); have r7 : (World.setO w6 bk (.map es clk)).rangeAt w.heap.size 0 (qah e v) := qal (qhZ (MapIs.isMap h6.mkp)) r6; obtain ⟨W7, hW7⟩ : ∃ W7, World.setO w6 bk (.map es clk) = W7 := ⟨_, rfl⟩; rw [hW7] at hup h7 hbut7 r7; obtain ⟨g0, g1, g2, g6, g18, gl⟩ := boxF r7 hcs hm; have g3 := h7.c0; clear d0 d1 d2 d6 d18 dl d3 e0 hv5 hmu))
 rename_i Q0 K0 hK0 hS0; clear hS0; refine hK0 _ _ ?_; apply wp_seq_k; intro K1 hK1; go_cut [] from 6 (fun wc => But (qav bk ba bd bv G) w wc /\ (∃ nb, OMW wc n b bk ba bd bs bv (qcx (qbZ G e u') e nb) /\ ∀ i, i < w.heap.size -> qav bk ba bd bv (qcx (qbZ G e u') e nb) i -> qav bk ba bd bv G i) /\ wc.rangeAt w.heap.size 0 (qah e v))
 case rest =>
  obtain ⟨hbutc, ⟨nb, hc, hmc⟩, rc⟩ := hcut; have hmapsW := h.maps; obtain ⟨p0, p1, p2, p6, p18, pl⟩ := boxF rc hcs hm; rw [hve] at p18; have hlenv : vn = e.over.length := by
   rw [hve] at hd; rcases hd with ⟨h0, a, c, hh⟩ | ⟨_, _, _, _, _, _, hh, _⟩
   · cases hh; rw [h0]; rfl
   · cases hh; rfl
  subst hlenv; clear h h0 hr hright hev0; go_wp2; go_loopw [72] (fun i wr => ∃ k : Nat, k <= e.over.length /\ i = .int .i64 k /\ But (qav bk ba bd bv G) w wr /\ OMW wr n b bk ba bd bs bv (qcw (qcx (qbZ G e u') e nb) (e.over.take k)) /\ ∀ i, i < w.heap.size -> qav bk ba bd bv (qcw (qcx (qbZ G e u') e nb) (e.over.take k)) i -> qav bk ba bd bv G i)
   (fun i _ => e.over.length - (intOf i).toNat)
  case atStart => exact ⟨0, Nat.zero_le _, rfl, hbutc, by rw [List.take_zero]; exact hc, by rw [List.take_zero]; exact hmc⟩
  case round =>
   obtain ⟨k, hk, rfl, hbr, hor, hmr⟩ := hrel; by_cases hlt : k < e.over.length
   · have hstay : qa6 w wr := hbr.cells hmapsW; rw [hve] at hd; rcases hd with ⟨h0, _⟩ | ⟨ob, off, cap, arr, ty, fz, hh, hob, hcap, hlen, hcells⟩
     · rw [h0] at hlt; exact absurd hlt (Nat.not_lt_zero _)
     · simp only [Value.slice.injEq] at hh; obtain ⟨rfl, -, rfl⟩ := hh; obtain ⟨x0, x1, x2⟩ := hcells k hlt; have hobr := hstay _ _ _ _ hob; have cell : ∀ {j : Nat} {u : Value}, arr[j]? = some u -> wr.cell? ⟨ob, j, none⟩ = some u := fun hx => by
        unfold World.cell?; simp only [hobr, Option.isSome_none, Bool.false_eq_true, if_false]; exact hx
       have c0 := cell x0; have c1 := cell x1; have c2 := cell x2; have hba : Below wr.heap.size wr (wr.alloc (.cells #[.int .i64 e.over[k].dev, .int .i64 e.over[k].inc, .int .i64 e.over[k].seq] 35)) := (Below.refl wr.heap.size wr).alloc (Nat.le_refl _) _; have hkill := Tryz.kill (hor.below hba) e.over[k]; have hnda := hor.ma.nd; have hwrs := hbr.size; rw [show encD e.over[k] = .agg #[.int .i64 e.over[k].dev, .int .i64 e.over[k].inc, .int .i64 e.over[k].seq] from rfl] at hkill; clear hcells x0 x1 x2 cell hob hobr hstay hlen rc hc hbutc p0 p1 p2 p6 pl p18; go_wp2_with (go_at_call 73; refine hkill.mono ?_; rintro e' w9 ⟨rfl, hb9, h9⟩; have R1 : But (qav bk ba bd bv G) w w9 := (hbr.more (zz7 (S := fun _ => False) hba) (fun _ _ h => h.elim)).more hb9 (fun i hi hh => hmr i hi hh); rw [<- qhI hlt] at h9)
       go_roundw
       case rel =>
        refine ⟨k + 1, hlt, by go_num, R1, h9, fun i hi hh => hmr i hi ?_⟩; rw [qhI hlt] at hh; unfold qav at hh ⊢; simp only [List.mem_cons] at hh ⊢; rcases hh with hh | hh | hh | hh | hh
        · exact .inl hh
        · exact .inr (.inl hh)
        · exact .inr (.inr (.inl hh))
        · exact .inr (.inr (.inr (.inl hh)))
        · exact .inr (.inr (.inr (.inr (qkJ hnda _ hh))))
       case measure => simp [intOf]; omega
   · have hkl : k = e.over.length := by omega
     subst hkl; rw [List.take_length] at hor; go_wp2; refine bodyPost_ret (results_tmp2 rfl _ _ _) rfl ?_; exact ⟨rfl, hbr, _, hor, (show ∀ (v : Value) (nb : Nat), GRel (qgn G e v nb) (qay m e).1 from hfinal) u' nb⟩
 case first =>
  have h7' : OMW W7 n b bk ba bd bs bv (qbZ G e u') := h7; have hencv : qci e v = .agg cs := by rw [<- (show (qah e v).toArray = cs from hcs)]; rfl
  by_cases kd : e.kind = 1
  case neg =>
   have hL : qcx (qbZ G e u') e 0 = qbZ G e u' := by unfold qcx; rw [if_neg (fun hh => kd hh.1)]
   go_wp2; go_meet
   case rel => exact ⟨hbut7, ⟨0, by rw [hL]; exact ⟨h7', fun _ _ hh => hh⟩⟩, r7⟩
  case pos =>
   rw [kd] at g6; have hdead := Tryz.dead h7' e.dot; rw [show encD e.dot = .agg #[.int .i64 e.dot.dev, .int .i64 e.dot.inc, .int .i64 e.dot.seq] from rfl, show (qbZ G e u').dead = G.dead from rfl] at hdead
   cases hdd : getL G.dead e.dot with
   | some z =>
     rw [hdd] at hdead; have hL : qcx (qbZ G e u') e 0 = qbZ G e u' := by
       unfold qcx; rw [if_neg (fun hh => by have := hh.2; rw [show (qbZ G e u').dead = G.dead from rfl, hdd] at this; cases this)]
     go_wp2_with (go_at_call 71; refine hdead.mono ?_; rintro e' w8 ⟨rfl, hb8⟩; have h8 := h7'.below hb8; have r8 := qal (zz2 hb8) r7; have hbut8 := hbut7.more (zz7 (S := fun _ => False) hb8) (fun _ _ h => h.elim))
     go_meet
     case rel => exact ⟨hbut8, ⟨0, by rw [hL]; exact ⟨h8, fun _ _ hh => hh⟩⟩, r8⟩
   | none =>
     rw [hdd] at hdead
     cases hal : getL G.alive e.key with
     | none =>
       have hL : ∀ nb, qcx (qbZ G e u') e nb = { qbZ G e u' with alive := qaq G.alive e.key (nb, [(e.dot, 1)]) } := fun nb => by
        unfold qcx qjA; rw [if_pos ⟨kd, hdd⟩, show (qbZ G e u').alive = G.alive from rfl, hal]
       go_wp2_with (first
        | (go_at_call 71; refine hdead.mono ?_; rintro e' w8 ⟨rfl, hb8⟩; have h8 := h7'.below hb8; have r8 := qal (zz2 hb8) r7; have hbut8 := hbut7.more (zz7 (S := fun _ => False) hb8) (fun _ _ h => h.elim); obtain ⟨j0, j1, j2, j6, j18, jl⟩ := boxF r8 hcs hm; have hlive := qv9 h8 (by have := hbut8.size; omega) e v hal; rw [hencv] at hlive)
        | (go_at_call 72; refine hlive.mono ?_; rintro e' w9 ⟨rfl, hb9, nb, hnb, h9⟩; have r9 := qal (hb9.cells h8.maps) r8; have hbut9 : But (qav bk ba bd bv G) w w9 := hbut8.trans hb9))
       go_meet
       case rel => exact ⟨hbut9, ⟨nb, by rw [hL]; exact ⟨h9, fun i hi hh => qqv hal (by have := hbut8.size; omega) hi hh⟩⟩, r9⟩
     | some x =>
       obtain ⟨jb, L⟩ := x; have hL : qcx (qbZ G e u') e 0 = { qbZ G e u' with alive := qaq G.alive e.key (jb, qaq L e.dot 1) } := by
        unfold qcx qjA; rw [if_pos ⟨kd, hdd⟩, show (qbZ G e u').alive = G.alive from rfl, hal]
       go_wp2_with (first
        | (go_at_call 71; refine hdead.mono ?_; rintro e' w8 ⟨rfl, hb8⟩; have h8 := h7'.below hb8; have r8 := qal (zz2 hb8) r7; have hbut8 := hbut7.more (zz7 (S := fun _ => False) hb8) (fun _ _ h => h.elim); obtain ⟨j0, j1, j2, j6, j18, jl⟩ := boxF r8 hcs hm; have hlive := qwa h8 e v hal; rw [hencv] at hlive)
        | (go_at_call 72; refine hlive.mono ?_; rintro e' w9 ⟨rfl, hb9, h9⟩; have r9 := qal (hb9.cells h8.maps) r8; have hbut9 : But (qav bk ba bd bv G) w w9 := hbut8.trans hb9))
       go_meet
       case rel => exact ⟨hbut9, ⟨0, by rw [hL]; exact ⟨h9, fun i hi hh => qqw h.ma.nd hal hh⟩⟩, r9⟩
end Go.Proofs
set_option maxHeartbeats 4000000
namespace Go.Proofs
open Go Go.Am Go.RowKit Go.Sy Go.Gm Go.Maps Go.Sort Go.Shelf
inductive Flat : SV -> Prop
 | bool (b : Bool) : Flat (.bool b)
 | int (k : IntKind) (n : Int) : Flat (.int k n)
 | str (s : List UInt8) : Flat (.str s)
 | wp (a : Addr) : Flat (.wp a)
 | lst {X : Type} {L : List X} {enc : X -> List SV} (h : ∀ (i : Nat) x (j : Nat) v, L[i]? = some x -> (enc x)[j]? = some v -> Flat v) : Flat (.lst X L enc)
theorem qn4 (l : List CDot) : Flat (dots l) := .lst fun i x j v _ hv => by
 have hj : j < 3 := (List.getElem?_eq_some_iff.1 hv).1; match j, hj with
 | 0, _ | 1, _ | 2, _ => cases hv; exact .int _ _
theorem qlS (l : List CEvent) : Flat (evs' l) := .lst fun i x j v _ hv => by
 have hj : j < 19 := (List.getElem?_eq_some_iff.1 hv).1; match j, hj with
 | 0, _ | 1, _ | 2, _ | 3, _ | 4, _ | 5, _ | 6, _ | 15, _ | 16, _ | 17, _ => cases hv; exact .int _ _
 | 7, _ | 8, _ | 9, _ | 10, _ => cases hv; exact .str _
 | 11, _ | 12, _ | 13, _ | 14, _ => cases hv; exact .bool _
 | 18, _ => cases hv; exact qn4 _
section
variable [Inhabited DrP] {tab : Tab} {w : World} {p : Nat -> Prop} {g : Bool}
theorem qns {n : Nat} (a : Option Addr) (c : Nat) : absV n (.slice a 0 c) = .nils \/ absV n (.slice a 0 c) = .raw (.slice a 0 c) := by
 unfold absV; split <;> simp_all
theorem quN {s : SV} (hf : Flat s) : ∀ {v : Value}, Rd w p g s v -> SimP (rowH tab w).get s (absV w.heap.size v) := by
 induction hf with
 | bool b => intro v h; cases h; exact .bool b
 | int k n => intro v h; cases h; exact .int k n
 | str s => intro v h; cases h; exact .str s
 | wp a => intro v h; cases h; exact .wp a
 | @lst X L enc hfl ih =>
  intro v h
  cases h with
  | lstn h0 => exact .lst0 h0 (.inl rfl)
  | lst0 h h0 a c =>
   rcases qns (n := w.heap.size) a c with e | e
   · rw [e]; exact .lst0 h0 (.inl rfl)
   · rw [e]; exact .lst0 h0 (.inr (.inr ⟨_, _, rfl⟩))
  | lst b off cap arr e fz sz u hp hb hs hl hn hc h1 h2 =>
   exact qiJ hb hs (fun x hx => by obtain ⟨i, hi, rfl⟩ := List.getElem_of_mem hx; exact hn i _ (List.getElem?_eq_getElem hi)) hl rfl hc (fun i x j v hx hv => ⟨u i j, h1 i x j v hx hv, ih i x j v hx hv (h2 i x j v hx hv)⟩)
theorem qqf {s : SV} (hf : Flat s) {v : Value} (h : Rd w p g s v) (n : Nat) : absA n v = absV n v := by
 cases hf <;> cases h <;> rfl
theorem qo1 {s : SV} (hf : Flat s) {v : Value} (h : Rd w p g s v) : SimP (rowH tab w).get s (absA w.heap.size v) := by
 rw [qqf hf h]; exact quN hf h
theorem qrI {s : SV} {v : Value} (h : SimP (rowH tab w).get s (absA w.heap.size v)) : Rd w (fun _ => True) true s v := by
 have := qe9 (qes tab w (E := ⟨fun i => i, fun _ => 0⟩) (fun _ _ => rfl)) (fun _ _ h => h) h; rwa [qgz (fun _ _ => rfl)] at this
end
def EvsV (w : World) (l : List CEvent) (v : Value) : Prop := (l = [] /\ ∃ a c, v = .slice a 0 c) \/ ∃ b off cap arr e fz, v = .slice (some ⟨b, off, none⟩) l.length cap /\ w.heap[b]? = some (.cells arr e fz) /\ l.length <= cap /\ off + l.length * 19 <= arr.size /\
 ∀ i (h : i < l.length), ∃ u, (∀ j, j < 19 -> arr[off + i * 19 + j]? = (qah l[i] u)[j]?) /\ DotsV w l[i].over u
theorem EvsV.cells {w w' : World} (hc : qa6 w w') {l : List CEvent} {v : Value} (h : EvsV w l v) : EvsV w' l v := by
 rcases h with h | ⟨b, off, cap, arr, e, fz, h1, h2, h3, h5, h4⟩
 · exact .inl h
 · exact .inr ⟨b, off, cap, arr, e, fz, h1, hc _ _ _ _ h2, h3, h5, fun i hi => by obtain ⟨u, k1, k2⟩ := h4 i hi; exact ⟨u, k1, k2.cells hc⟩⟩
theorem EvsV.one {w : World} {l : List CEvent} {v : Value} (h : EvsV w l v) : ∃ a c, v = .slice a l.length c := by
 rcases h with ⟨rfl, a, c, rfl⟩ | ⟨b, off, cap, arr, e, fz, rfl, _⟩ <;> exact ⟨_, _, rfl⟩
theorem quc [Inhabited DrP] {w : World} {p : Nat -> Prop} {g : Bool} {l : List CEvent} {v : Value} (h : Rd w p g (evs' l) v) : EvsV w l v := by
 unfold evs' at h
 cases h with
 | lstn h0 => exact .inl ⟨List.length_eq_zero_iff.1 h0, _, _, rfl⟩
 | lst0 h h0 a c => exact .inl ⟨List.length_eq_zero_iff.1 h0, _, _, rfl⟩
 | lst b off cap arr e fz sz u hp hb hs hl hn hc h1 h2 =>
  by_cases h0 : l = []
  · subst h0; exact .inl ⟨rfl, _, _, rfl⟩
  · have hsz : sz = 19 := by
     obtain ⟨x, l', rfl⟩ := List.exists_cons_of_ne_nil h0; exact (hn 0 x rfl).symm
    subst hsz; refine .inr ⟨b, off, cap, arr, e, fz, rfl, hb, hc, hl, fun i hi => ?_⟩; have hx : l[i]? = some l[i] := List.getElem?_eq_getElem hi; have key : ∀ (j : Nat) s, (CEvent.enc l[i])[j]? = some s -> arr[off + i * 19 + j]? = some (u i j) /\ Rd w p g s (u i j) := fun j s hs => ⟨h1 i _ j s hx hs, h2 i _ j s hx hs⟩
    refine ⟨u i 18, fun j hj => ?_, qsh (key 18 _ rfl).2⟩; match j, hj with
    | 0, _ | 1, _ | 2, _ | 3, _ | 4, _ | 5, _ | 6, _ | 15, _ | 16, _ | 17, _ => rw [(key _ _ rfl).1, qbd (key _ _ rfl).2]; rfl
    | 7, _ | 8, _ | 9, _ | 10, _ => rw [(key _ _ rfl).1, qdN (key _ _ rfl).2]; rfl
    | 11, _ | 12, _ | 13, _ | 14, _ => rw [(key _ _ rfl).1, qd4 (key _ _ rfl).2]; rfl
    | 18, _ => rw [(key _ _ rfl).1]; rfl
    | _ + 19, h => exact absurd h (by omega)
theorem qrG [Inhabited DrP] {w : World} {l : List CEvent} {v : Value} (h : EvsV w l v) : Rd w (fun _ => True) true (evs' l) v := by
 unfold evs'; rcases h with ⟨rfl, a, c, rfl⟩ | ⟨b, off, cap, arr, e, fz, rfl, hb, hc, hl, hi⟩
 · exact .lst0 rfl rfl a c
 · refine .lst b off cap arr e fz 19 (fun i j => (arr[off + i * 19 + j]?).getD (.bool false)) trivial hb (by decide) hl (fun _ _ _ => rfl) hc (fun i x j v hx hv => ?_) (fun i x j v hx hv => ?_)
   all_goals
     have hil : i < l.length := (List.getElem?_eq_some_iff.1 hx).1; have hxe : l[i] = x := (List.getElem?_eq_some_iff.1 hx).2; obtain ⟨u, hcl, hd⟩ := hi i hil; rw [hxe] at hcl hd; have hj : j < 19 := (List.getElem?_eq_some_iff.1 hv).1; have hcl := hcl j hj
   · rw [hcl, List.getElem?_eq_getElem (show j < (qah x u).length from hj)]; rfl
   · show Rd w _ true v ((arr[off + i * 19 + j]?).getD _)
     rw [hcl]; match j, hj with
     | 0, _ | 1, _ | 2, _ | 3, _ | 4, _ | 5, _ | 6, _ | 15, _ | 16, _ | 17, _ => cases hv; exact .int _ _
     | 7, _ | 8, _ | 9, _ | 10, _ => cases hv; exact .str _
     | 11, _ | 12, _ | 13, _ | 14, _ => cases hv; exact .bool _
     | 18, _ => cases hv; exact qs9 hd
theorem qwk {w : World} {b off : Nat} {arr : Array Value} {e : TypeId} {fz : Nat × Nat} {x : CEvent} {u : Value} {i : Nat} (hb : w.heap[b]? = some (.cells arr e fz)) (hc : ∀ j, j < 19 -> arr[off + i * 19 + j]? = (qah x u)[j]?) :
  (loadCellsFrom ⟨b, off + i * 19, none⟩ 0 19 #[]).run Tryz.prog w = .ok (qah x u).toArray w := by
 have hl : (loadCells ⟨b, off + i * 19, none⟩ (qah x u).length).run Tryz.prog w = .ok (qah x u).toArray w :=
  run_loadCells_list (P := Tryz.prog) w ⟨b, off + i * 19, none⟩ (qah x u) (fun j v hv => by
   have hj : j < 19 := (List.getElem?_eq_some_iff.1 hv).1; rw [Addr.add_mid]; unfold World.cell?
   simp only [hb, Option.isSome_none, Bool.false_eq_true, if_false]; rw [hc j hj]; exact hv)
 exact hl
theorem OMW.heap {w w' : World} {n b bk ba bd bs bv : Nat} {G : GMap} (h : OMW w n b bk ba bd bs bv G) (hs : ∀ i, i < w.heap.size -> w'.heap[i]? = w.heap[i]?) : OMW w' n b bk ba bd bs bv G where
 c0 := qaf h.c0 (hs _ (qaI h.c0))
 c1 := qaf h.c1 (hs _ (qaI h.c1))
 c2 := qaf h.c2 (hs _ (qaI h.c2))
 c3 := qaf h.c3 (hs _ (qaI h.c3))
 cv := qaf h.cv (hs _ (qaI h.cv))
 mkp := h.mkp.same (hs _ h.mkp.lt)
 ma := h.ma.same (hs _ h.ma.lt)
 md := h.md.same (hs _ h.md.lt)
 mv := h.mv.same (hs _ h.mv.lt)
 mi := fun x hx => (h.mi x hx).same (hs _ (h.mi x hx).lt)
 nd := h.nd
 low := h.low
 ev := fun x hx => (h.ev x hx).cells fun c arr e fz hc => by rw [hs _ (Array.getElem?_eq_some_iff.1 hc).1]; exact hc
abbrev qiX (w : World) : Inhabited DrP := ⟨⟨False, w.heap⟩⟩
theorem qll (w : World) : @OldW (qiX w) w := by intro b _; rfl
theorem qkm (w : World) : ¬ (@default DrP (qiX w)).dr := fun h => h
theorem qo6 {w : World} {n b bk ba bd bs bv : Nat} {G : GMap} {m : CMap} (h : OMW w n b bk ba bd bs bv G) (g : GRel G m) (ok : okM m) (hov : ∀ e ∈ m.kept, e.over.length <= 100000) : @Stands (qiX w) b m :=
 letI : Inhabited DrP := qiX w
 ⟨ok, hov, fun w' hw => ⟨n, bk, ba, bd, bs, bv, G, h.heap fun i hi => hw i hi, g⟩⟩
theorem Tryz.apply {w : World} {n b bk ba bd bs bv : Nat} {G : GMap} {m : CMap} {e : CEvent} {u : Value} (h : OMW w n b bk ba bd bs bv G) (hg : GRel G m) (hn : n <= w.heap.size) (hu : EvV w u e) (hse : qcK e) (hover : e.over.length <= 100000) (ok : okM m) :
  Calls Tryz.prog 15 #[.pointer (some ⟨b, 0, none⟩), u] w fun e' w' => e' = .returned (.tuple #[.bool (qay m e).2.1, .int .i64 (qay m e).2.2]) /\ Below n w w' /\ qa6 w w' /\ ∃ G', OMW w' n b bk ba bd bs bv G' /\ GRel G' (qay m e).1 := by
 letI : Inhabited DrP := ⟨⟨True, #[]⟩⟩
 have hseq := qhH ok.seq; have hl : G.kept.length <= 100000 := by rw [hg.len]; have := ok.kept; omega
 cases hA : (qay m e).2.1 with
 | false =>
  refine (qwf h hg hu hse hl hseq hA).mono ?_; rintro e' w' ⟨rfl, he, hb⟩; exact ⟨rfl, hb.mono hn, zz2 hb, G, h.below hb, by rw [he]; exact hg⟩
 | true =>
  have hq : qa7 e = true /\ hasM m.ctx e.dot = false /\ getM m.ctx e.dot.dev e.dot.inc + 1 = e.dot.seq /\ ¬ 2048 <= m.kept.length /\ (qay m e).2.2 = 0 := by
    unfold qay at hA ⊢; split at hA
    · cases hA
    split at hA
    · cases hA
    split at hA
    · cases hA
    split at hA
    · cases hA
    rename_i q1 q2 q3 q4; rw [if_neg q1, if_neg q2, if_neg q3, if_neg q4]; exact ⟨by simpa using q1, by simpa using q2, by simpa using q3, q4, rfl⟩
  obtain ⟨q1, q2, q3, q4, q5⟩ := hq; rw [q5]; refine (qv7 h hg hn hu hse hover hseq q1 q2 q3 q4).mono ?_; rintro e' w' ⟨rfl, hb, G', h1, h2⟩; have hmaps := h.maps; refine ⟨rfl, ⟨hb.os, hb.tape, hb.output, hb.size, fun k hk => hb.block k (by omega) fun hm => ?_⟩, fun c arr ty fz hc => ?_, G', h1, h2⟩
  · have := h.low k (by unfold qav at hm; simp only [List.mem_cons] at hm ⊢; exact .inr (.inr hm)); omega
  · rw [hb.block c (Array.getElem?_eq_some_iff.1 hc).1 fun hm => ?_]
    · exact hc
    · obtain ⟨es, clk, he⟩ := hmaps c hm; rw [hc] at he; cases he
end Go.Proofs
namespace Go.Proofs
open Go Go.Am Go.RowKit Go.Sy Go.Gm Go.Maps Go.Sort Go.Shelf
variable [Inhabited DrP]
theorem qn1 {α : Type} {p : α -> Bool} {l : List α} {x : α} (hx : x ∈ l) (hp : p x = true) (hu : ∀ y ∈ l, p y = true -> y = x) : l.find? p = some x := by
 cases e : l.find? p with
 | none => exact absurd hp (by have := List.find?_eq_none.1 e x hx; simpa using this)
 | some y => rw [hu y (List.mem_of_find?_eq_some e) (List.find?_some e)]
theorem qmM {G : GMap} {m : CMap} (g : GRel G m) (k : CKey) (now : Int) : qbu (qha m now) k = qju m k now := by
  unfold qbu qju qha qby; by_cases h0 : keyM m k = []
  · have hw : qag m k = (qb1, false) := by unfold qag; rw [h0]; rfl
    rw [hw, if_pos (.inl rfl)]; rw [show ((qaw m).map CEvent.item |>.filter fun x => !qca x.cookie now).find? (fun x => decide (x.key = k)) = none from ?_]; rw [List.find?_eq_none]; intro x hx; obtain ⟨y, hy, rfl⟩ := List.mem_map.1 (List.mem_filter.1 hx).1; obtain ⟨k', hk', rfl⟩ := (qdn g y).1 hy; have hkk : (qag m k').1.key = k' := (keyM_mem.1 (qb0 hk')).2; intro he; have he : (qag m k').1.key = k := of_decide_eq_true he; rw [hkk] at he; exact hk' (by rw [he]; exact h0)
  · have hwm := qb0 h0; have hkk : (qag m k).1.key = k := (keyM_mem.1 hwm).2; have hw2 : (qag m k).2 = true := by
      unfold qag; obtain ⟨y, hy⟩ := qfG (l := keyM m k) (x := (keyM m k).length) (List.length_pos_iff.2 h0) (Nat.le_refl _); rw [List.take_length] at hy; show (winL (keyM m k)).isSome = true
      rw [hy]; rfl
    have huni : ∀ y ∈ qaw m, y.key = k -> y = (qag m k).1 := fun y hy he => by
      obtain ⟨k', hk', rfl⟩ := (qdn g y).1 hy; have hkk' : (qag m k').1.key = k' := (keyM_mem.1 (qb0 hk')).2; rw [hkk'] at he; rw [he]
    by_cases ho : qca (qag m k).1.cookie now = true
    · rw [if_pos (.inr ho)]; rw [show ((qaw m).map CEvent.item |>.filter fun x => !qca x.cookie now).find? (fun x => decide (x.key = k)) = none from ?_]; rw [List.find?_eq_none]; intro x hx he; obtain ⟨hx1, hx2⟩ := List.mem_filter.1 hx; obtain ⟨y, hy, rfl⟩ := List.mem_map.1 hx1; have he : y.key = k := of_decide_eq_true he; rw [huni y hy he] at hx2; have hx2 : (!qca (qag m k).1.cookie now) = true := hx2; rw [ho] at hx2; cases hx2
    · have ho' : qca (qag m k).1.cookie now = false := by simpa using ho
      rw [if_neg (by rintro (h | h); · rw [hw2] at h; cases h
                     · exact ho h)]
      rw [qn1 (x := (qag m k).1.item) (List.mem_filter.2 ⟨List.mem_map.2 ⟨_, (qdn g _).2 ⟨k, h0, rfl⟩, rfl⟩, by show (!qca (qag m k).1.cookie now) = true; rw [ho']; rfl⟩) (decide_eq_true hkk) fun x hx he => ?_]; obtain ⟨y, hy, rfl⟩ := List.mem_map.1 (List.mem_filter.1 hx).1; rw [huni y hy (of_decide_eq_true he)]
end Go.Proofs
set_option maxHeartbeats 40000000
namespace Go.Proofs
open Go Go.Am Go.RowKit Go.Sy Go.Gm Go.Maps Go.Sort Go.Shelf
def qo4 : Nat -> Code -> Code
 | 0, c => c
 | n + 1, .seq _ b => qo4 n b
 | _, c => c
def qr2 : Con := { Y := Unit, pre := fun _ => True, args := fun _ => [], res := fun _ => .bool true }
section
variable [Inhabited DrP]
theorem qnj (m : CMap) : (qaw m).length <= m.kept.length := by
 have h1 := qgk m (qaj m) []; have h2 : (qaj m).length <= m.kept.length := List.length_filter_le _ _; unfold qaw winF; simp only [List.length_nil, Nat.zero_add] at h1; omega
theorem qqm (m : CMap) : (qby m).length <= m.kept.length := by unfold qby; rw [List.length_map]; exact qnj m
noncomputable def qt6 (f : FuncId) : Option Con := bif Nat.beq f zz60 then some qr2 else qr9 f
theorem qpX (hdr : ¬ (default : DrP).dr) (ha : CO zz60 qr2) : ∀ f C, qt6 f = some C -> CO f C := qab ha (qlD hdr)
theorem qu8 {b : Nat} {l : List CEvent} {k : CKey} {now : Int} {G : GMap} (hl : qjz l) (g : GRel G (qba l)) (hS : Stands b (qba l)) : wp (cfgE qt6 (fun _ _ => none)) 2000
  ⟨qv0, 102, 0, [.code (qo4 4 (Tryz.f3.body.getD .skip))], ⟨[(0, evs' l), (2, i64 now), (4, .rptr k.enc 0), (7, .wp ⟨b, 0, none⟩)], ⟨0, []⟩, []⟩⟩ isT := by
 have hb := (qcm hl.2 l.length (Nat.le_refl _)); rw [List.take_length] at hb; have hok : okM (qba l) := hb.ok (by have := hl.1; omega); have hil : (qby (qba l)).length <= 10000 := by have h1 := qqm (qba l); have h2 := hb.kept; have h3 := hl.1; omega
 have htl : (qha (qba l) now).length <= 10000 := Nat.le_trans (List.length_filter_le _ _) hil; have hf := qmM g k now; have hdl : fewD (qgE (qba l) k) := by unfold fewD qgE; rw [List.length_map]; have := qgM hok k; omega
 (conv => whnf)
 refine ⟨l, ?_⟩
 repeat ((conv => whnf); first | refine ⟨rfl, ?_⟩ | refine ⟨trivial, ?_⟩)
 refine ⟨hl, ?_⟩
 (conv => whnf)
 refine ⟨(some (b, qba l), k, now), ?_⟩
 repeat ((conv => whnf); first | refine ⟨rfl, ?_⟩ | refine ⟨trivial, ?_⟩)
 refine ⟨hS, ?_⟩
 (conv => whnf)
 refine ⟨(qba l, now), ?_⟩
 repeat ((conv => whnf); first | refine ⟨rfl, ?_⟩ | refine ⟨trivial, ?_⟩)
 refine ⟨hok, ?_⟩
 (conv => whnf)
 refine ⟨(qha (qba l) now, k), ?_⟩
 repeat ((conv => whnf); first | refine ⟨rfl, ?_⟩ | refine ⟨trivial, ?_⟩)
 refine ⟨htl, ?_⟩
 (conv => whnf)
 refine ⟨((none, k, now) : Mp × CKey × Int), ?_⟩
 repeat ((conv => whnf); first | refine ⟨rfl, ?_⟩ | refine ⟨trivial, ?_⟩)
 have hg : qju (Mp.m ((some (b, qba l), k, now) : Mp × CKey × Int).1) ((some (b, qba l), k, now) : Mp × CKey × Int).2.1 ((some (b, qba l), k, now) : Mp × CKey × Int).2.2 = qbu (qha (qba l) now, k).1 (qha (qba l) now, k).2 := hf.symm
 (conv => whnf)
 refine br_iff.2 ⟨fun _ => ?_, fun h => absurd h (by rw [hg]; simp)⟩
 (conv => whnf)
 refine br_iff.2 ⟨fun _ => ?_, fun h => absurd h (by rw [hg]; simp)⟩
 (conv => whnf)
 refine ⟨((some (b, qba l), k) : Mp × CKey), ?_⟩
 repeat ((conv => whnf); first | refine ⟨rfl, ?_⟩ | refine ⟨trivial, ?_⟩)
 refine ⟨hS, ?_⟩
 (conv => whnf)
 refine ⟨(qba l, k), ?_⟩
 repeat ((conv => whnf); first | refine ⟨rfl, ?_⟩ | refine ⟨trivial, ?_⟩)
 refine ⟨hok, ?_⟩
 (conv => whnf)
 refine ⟨(qgE (qba l) k, qgE (qba l) k), ?_⟩
 repeat ((conv => whnf); first | refine ⟨rfl, ?_⟩ | refine ⟨trivial, ?_⟩)
 refine ⟨⟨hdl, hdl⟩, ?_⟩; refine br_iff.2 ⟨fun _ => ?_, fun h => absurd (show decide (qgE (qba l) k = qgE (qba l) k) = false from h) (by simp)⟩
 (conv => whnf)
 refine ⟨((none, k) : Mp × CKey), ?_⟩
 repeat ((conv => whnf); first | refine ⟨rfl, ?_⟩ | refine ⟨trivial, ?_⟩)
 (conv => whnf)
 refine ⟨(), ?_⟩
 repeat ((conv => whnf); first | refine ⟨rfl, ?_⟩ | refine ⟨trivial, ?_⟩)
 repeat' (first | exact trivial | exact rfl | ((conv => whnf); first | refine brI (fun _ => ?_) fun _ => ?_ | refine And.intro ?_ ?_))
end
end Go.Proofs
set_option maxHeartbeats 4000000
namespace Go.Proofs
open Go Go.Am Go.RowKit Go.Sy Go.Gm Go.Maps Go.Sort Go.Shelf
theorem qeo {P : Program} {f : FuncId} {fn : Func} {l : List Item} {R : Ending -> World -> Prop} {a : Act} {w : World} {v : Value} (hr : (results fn a.tmps).run P w = .ok v w) (hd : a.defers = []) (hR : R (.returned v) w) : qkN P f fn l R .ret a w := ⟨hd, v, hr, hR⟩
theorem qv8 {l : List CEvent} {v : Value} {w : World} (h : EvsV w l v) : Calls Tryz.prog 12 #[v, .int .i64 30] w fun e w' => e = .returned (.bool (leI (Int.ofNat l.length) 30 && l.all qbI)) /\ Below w.heap.size w w' :=
 qpz (C := fun _ => qgs) (fun I => @qhP I) (hfn := rfl) (hb := rfl) (args := [v, .int .i64 30]) (fun I => ⟨(l, 30), (by show (30 : Int) <= 1000000; omega), PL.cons (qo1 (qlS l) (qrG h)) (PL.cons (.int _ _) PL.nil), rfl⟩)
theorem qqq [Inhabited DrP] {l : List CEvent} (h : (leI (Int.ofNat l.length) 30 && l.all qbI) = true) : l.length <= 30 /\ qjz l := by
 rw [Bool.and_eq_true, qaX, decide_eq_true_eq, List.all_eq_true] at h; have h1 : (l.length : Int) <= 30 := h.1; exact ⟨by omega, by omega, h.2⟩
theorem qmO [Inhabited DrP] {l : List CEvent} {i : Nat} (h : i < l.length) : qba (l.take (i + 1)) = (qay (qba (l.take i)) l[i]).1 := qb7 (fun m e => (qay m e).1) qdu h
theorem qss [Inhabited DrP] {m : CMap} {e x : CEvent} (h : x ∈ (qay m e).1.kept) : x ∈ m.kept \/ x = e := by
 unfold qay at h; split at h
 · exact .inl h
 split at h
 · exact .inl h
 split at h
 · exact .inl h
 split at h
 · exact .inl h
 unfold putK at h; rcases List.mem_append.1 h with h | h
 · exact .inl (List.mem_of_mem_take h)
 · rcases List.mem_cons.1 h with h | h
   · exact .inr h
   · exact .inl (List.mem_of_mem_drop h)
theorem qqh [Inhabited DrP] (l : List CEvent) {x : CEvent} (h : x ∈ (qba l).kept) : x ∈ l := by
 have key : ∀ (l : List CEvent) (m : CMap), x ∈ (l.foldl (fun m e => (qay m e).1) m).kept -> x ∈ m.kept \/ x ∈ l := by
   intro l; induction l with
   | nil => intro m h; exact .inl h
   | cons e l ih =>
    intro m h; rcases ih _ h with h | h
    · rcases qss h with h | rfl
      · exact .inl h
      · exact .inr List.mem_cons_self
    · exact .inr (List.mem_cons_of_mem _ h)
 rcases key l qdu h with h | h
 · cases h
 · exact h
theorem Mid.mono {P : Program} {f : FuncId} {l : List Item} {a : Act} {w : World} {R R' : Ending -> World -> Prop} (h : Mid P f l a w R) (hr : ∀ e w', R e w' -> R' e w') : Mid P f l a w R' := fun cs => by
 obtain ⟨e, w', fr, h1, h2⟩ := h cs; exact ⟨e, w', fr, hr _ _ h1, h2⟩
theorem quI [Inhabited DrP] (hdr : ¬ (default : DrP).dr) {f : FuncId} (ha : ∀ w, Calls Tryz.prog f #[] w fun e w' => e = .returned (.bool true) /\ Below w.heap.size w w') : CO f qr2 := zz86 zz1.ok (by
 rintro y - w args hold ⟨h1, h2⟩; match args, h1 with
 | [], _ =>
 refine (ha w).mono ?_; rintro e w' ⟨rfl, hb⟩; exact ⟨_, rfl, .inr (.bool true), hb, fun h => (hdr h).elim⟩)
theorem qg8 {w : World} {n b bk ba bd bs bv : Nat} {G : GMap} {l : List CEvent} (h : OMW w n b bk ba bd bs bv G) (g : GRel G (qba l)) (hl : qjz l) : @Stands (qiX w) b (qba l) := by
 letI : Inhabited DrP := qiX w
 have hb := qcm hl.2 l.length (Nat.le_refl _); rw [List.take_length] at hb; exact qo6 h g (hb.ok (by have := hl.1; omega)) fun e he => by
  have := (qdf (hl.2 e (qqh l he))).2; omega
end Go.Proofs
namespace Go.Proofs
open Go Go.Am Go.RowKit Go.Sy Go.Gm Go.Maps Go.Sort Go.Shelf
theorem qj2 [Inhabited DrP] {tab : Tab} {w : World} {tmps : Array Value} {ts : Fr} {t b : Nat} {k : CKey} {ty : TypeId} {fz : Nat × Nat} (h1 : tmps[t]? = some (.pointer (some ⟨b, 0, none⟩))) (hb : w.heap[b]? = some (.cells #[.string ⟨k.name.toArray⟩, .string ⟨k.domain.toArray⟩, .string ⟨k.path.toArray⟩] ty fz))
  (h : Slots tab w tmps ts) : Slots tab w tmps ((t, .rptr k.enc 0) :: ts) := by
 have hlt := (Array.getElem?_eq_some_iff.1 hb).1; refine h.put (av := .ptr b 0) h1 (fun E hE => by simp [conc, hE b hlt]) ?_; have hg : (rowH tab w).get b = some (.cells [.str k.name, .str k.domain, .str k.path] ty ((tab.siz.get ty).getD 1) false .ro) := by
  rw [qge]; unfold rowO; rw [hb]; rfl
 refine .rptr b 0 _ ty _ false .ro (fun j => ([.str k.name, .str k.domain, .str k.path] : List AV)[j]?.getD .nilp) hg (Nat.le_refl 3) (fun j v hj => ?_) (fun j v hj => ?_)
 all_goals
  have hj3 : j < 3 := (List.getElem?_eq_some_iff.1 hj).1; match j, hj3 with
  | 0, _ | 1, _ | 2, _ => cases hj; first | rfl | exact .str _
theorem qwj {l : List CEvent} {v : Value} {k : CKey} {now : Int} {w : World} (hv : EvsV w l v) (ha : ∀ w, Calls Tryz.prog 13 #[] w fun e w' => e = .returned (.bool true) /\ Below w.heap.size w w') :
  Calls Tryz.prog 3 #[v, encK k, .int .i64 now] w fun e w' => e = .returned (.bool true) /\ Below w.heap.size w w' := by
 obtain ⟨sa, sc, rfl⟩ := hv.one; rw [show encK k = .agg #[.string ⟨k.name.toArray⟩, .string ⟨k.domain.toArray⟩, .string ⟨k.path.toArray⟩] from rfl]; refine qfK Tryz.func3 rfl ?_; simp only [Tryz.ntmps3, List.size_toArray, List.length_cons, List.length_nil, Nat.reduceAdd, Nat.reduceSub, Array.replicate_succ, Array.replicate_zero, List.push_toArray, List.append_toArray, List.nil_append, List.cons_append]; refine Mid.next Tryz.func3 ?_; obtain ⟨W, hW⟩ : ∃ W, w.alloc (.cells #[.string ⟨k.name.toArray⟩, .string ⟨k.domain.toArray⟩, .string ⟨k.path.toArray⟩] 24) = W := ⟨_, rfl⟩; go_wp2; show Mid _ _ _ _ _ _
 have hbW : Below w.heap.size w W := by rw [<- hW]; exact (Below.refl _ _).alloc (Nat.le_refl _) _
 have hbb : W.heap[w.heap.size]? = some (.cells #[.string ⟨k.name.toArray⟩, .string ⟨k.domain.toArray⟩, .string ⟨k.path.toArray⟩] 24 (0, 0)) := by rw [<- hW]; exact World.alloc_heap_new _ _
 have d0 : W.cell? ⟨w.heap.size, 0, none⟩ = some (.string ⟨k.name.toArray⟩) := by rw [<- hW]; simp
 have d1 : W.cell? ⟨w.heap.size, 1, none⟩ = some (.string ⟨k.domain.toArray⟩) := by rw [<- hW]; simp
 have d2 : W.cell? ⟨w.heap.size, 2, none⟩ = some (.string ⟨k.path.toArray⟩) := by rw [<- hW]; simp
 have hvW := hv.cells (zz2 hbW); have hlight := qv8 hvW; refine Mid.next Tryz.func3 ?_
 cases hL : (leI (Int.ofNat l.length) 30 && l.all qbI) with
 | false =>
  rw [hL] at hlight; go_wp2_with (first | (go_at_call 12; refine hlight.mono ?_; rintro e w1 ⟨rfl, hb1⟩; have ha1 := ha w1) | (go_at_call 13; refine ha1.mono ?_; rintro e w2 ⟨rfl, hb2⟩))
  refine qeo (results_tmp rfl _ _ _) rfl ?_; exact ⟨rfl, (hbW.trans (hb1.mono hbW.size)).trans (hb2.mono (Nat.le_trans hbW.size hb1.size))⟩
 | true =>
  rw [hL] at hlight; obtain ⟨hl30, hlt⟩ := @qqq ⟨⟨True, #[]⟩⟩ l hL; by_cases q1 : 2000 < wrap64 ((k.name.length : Int) + (k.domain.length : Int))
  · clear hv hvW hW hbb hL; go_wp2_with (first | (go_at_call 12; refine hlight.mono ?_; rintro e w1 ⟨rfl, hb1⟩; have d0 := qaf d0 (hb1.block _ (qaI d0)); have d1 := qaf d1 (hb1.block _ (qaI d1)); have d2 := qaf d2 (hb1.block _ (qaI d2)); have ha1 := ha w1) | (go_at_call 13; refine ha1.mono ?_; rintro e w2 ⟨rfl, hb2⟩))
    refine qeo (results_tmp rfl _ _ _) rfl ?_; exact ⟨rfl, (hbW.trans (hb1.mono hbW.size)).trans (hb2.mono (Nat.le_trans hbW.size hb1.size))⟩
  have e1 : decide (2000 < wrap64 ((k.name.length : Int) + (k.domain.length : Int))) = false := decide_eq_false q1; by_cases q2 : 2000 < (k.path.length : Int)
  · have e2 : decide (2000 < (k.path.length : Int)) = true := decide_eq_true q2; clear hv hvW hW hbb hL q1 q2; go_wp2_with (first | (go_at_call 12; refine hlight.mono ?_; rintro e w1 ⟨rfl, hb1⟩; have d0 := qaf d0 (hb1.block _ (qaI d0)); have d1 := qaf d1 (hb1.block _ (qaI d1)); have d2 := qaf d2 (hb1.block _ (qaI d2)); have ha1 := ha w1) | (go_at_call 13; refine ha1.mono ?_; rintro e w2 ⟨rfl, hb2⟩))
    refine qeo (results_tmp rfl _ _ _) rfl ?_; exact ⟨rfl, (hbW.trans (hb1.mono hbW.size)).trans (hb2.mono (Nat.le_trans hbW.size hb1.size))⟩
  have e2 : decide (2000 < (k.path.length : Int)) = false := decide_eq_false q2; clear q1 q2; go_wp2_with (first | (go_at_call 12; refine hlight.mono ?_; rintro e w1 ⟨rfl, hb1⟩; have d0 := qaf d0 (hb1.block _ (qaI d0)); have d1 := qaf d1 (hb1.block _ (qaI d1)); have d2 := qaf d2 (hb1.block _ (qaI d2))))
  have hbb1 := (hb1.block _ (Array.getElem?_eq_some_iff.1 hbb).1).trans hbb; show Mid _ _ _ _ _ _
  refine Mid.next Tryz.func3 ?_; have hnew := qvD w1; go_wp2_with (first | (go_at_call 14; refine hnew.mono ?_; rintro e w2 ⟨b, bk, ba, bd, bs, bv, rfl, hO, hb2⟩))
  have hbb2 := (hb2.block _ (Array.getElem?_eq_some_iff.1 hbb1).1).trans hbb1; show Mid _ _ _ _ _ _
  refine Mid.next Tryz.func3 ?_; have hv2 := (hvW.cells (zz2 hb1)).cells (zz2 hb2); go_wp2; go_loopw [8] (fun i wr => ∃ (j : Nat) (G : GMap), j <= l.length /\ i = .int .i64 j /\ EvsV wr l (.slice sa l.length sc) /\ OMW wr w1.heap.size b bk ba bd bs bv G /\ GRel G (qba (l.take j)) /\ Below w1.heap.size w1 wr)
    (fun i _ => l.length - (intOf i).toNat)
  case atStart => exact ⟨0, _, Nat.zero_le _, rfl, hv2, hO, qvz, hb2⟩
  case round =>
    obtain ⟨j, G, hk, rfl, hvr, hOr, hgr, hbr⟩ := hrel; by_cases hlt2 : j < l.length
    · obtain ⟨bb, off, cap, arr, ty, fz, hsl, hbb, hcap, hsz, hcells⟩ := hvr.resolve_left (fun h => by rw [h.1] at hlt2; exact absurd hlt2 (Nat.not_lt_zero _)); simp only [Value.slice.injEq] at hsl; obtain ⟨rfl, -, rfl⟩ := hsl; obtain ⟨u, hcu, hdu⟩ := hcells j hlt2; have hld := qwk hbb hcu; have hlk := hlt.2 l[j] (List.getElem_mem hlt2); obtain ⟨hsm, hov⟩ := @qdf ⟨⟨True, #[]⟩⟩ _ hlk; have hok : okM (qba (l.take j)) := @boundM.ok ⟨⟨True, #[]⟩⟩ _ _ (@qcm ⟨⟨True, #[]⟩⟩ l hlt.2 j hk) (by omega); have happ := Tryz.apply hOr hgr hbr.size (e := l[j]) (u := qci l[j] u) ⟨u, rfl, hdu⟩ hsm (by omega) hok; obtain ⟨SZ, mm, hSZ, hsz2, hm⟩ := qeV; obtain ⟨cs, hcs⟩ : ∃ cs : Array Value, (qah l[j] u).toArray = cs := ⟨_, rfl⟩; have hcz : cs.size = mm := by rw [<- hcs]; exact (show (19 : Nat) = mm from Eq.symm hm)
      rw [show qci l[j] u = .agg cs from by rw [<- hcs]; rfl] at happ; rw [hcs, <- (hm : mm = 19)] at hld; go_wp2_with (go_at_call 15; refine happ.mono ?_; rintro e wn ⟨rfl, hbn, hcn, G', hO', hg'⟩)
      exact ⟨⟨j + 1, G', hlt2, by go_num, hvr.cells hcn, hO', by rw [@qmO ⟨⟨True, #[]⟩⟩ l j hlt2]; exact hg', hbr.trans hbn⟩, by simp [intOf]; omega⟩
    · have hkl : j = l.length := by omega
      subst hkl; rw [List.take_length] at hgr; go_wp2; show Mid _ _ _ _ _ _
      have hbbr := (hbr.block _ (Array.getElem?_eq_some_iff.1 hbb1).1).trans hbb1; have hS := qg8 hOr hgr hlt; letI : Inhabited DrP := qiX wr
      have hlaw := qu8 (k := k) (now := now) hlt hgr hS; refine Mid.mono (qvF (n := 2000) (c := qo4 4 (Tryz.f3.body.getD .skip)) zz1 rfl (qpX (qkm wr) (quI (qkm wr) ha)) rfl hlaw ?_ (qll wr)) ?_
      · exact .cons rfl (qo1 (qlS l) (qrG hvr)) (.cons rfl (.int _ _) (qj2 rfl hbbr (.cons rfl (.wp _) .nil)))
      · rintro e w' ⟨rfl, hb'⟩; have h1 := hbW.size; have h2 := Nat.le_trans h1 hb1.size; exact ⟨rfl, ((hbW.trans (hb1.mono h1)).trans (hbr.mono h2)).trans (hb'.mono (Nat.le_trans h2 hbr.size))⟩
end Go.Proofs
namespace Go.Proofs
open Go Go.Am Go.RowKit Go.Sy Go.Gm Go.Maps Go.Sort Go.Shelf
def awK : CKey := ⟨[110], [100], [47]⟩
def awE1 : CEvent := ⟨⟨0, 1, 1⟩, ⟨0, 0, 0⟩, 1, awK, ⟨[], false, false, false, false, 1099511627776, 0, 0⟩, []⟩
def awE2 : CEvent := ⟨⟨1, 1, 1⟩, ⟨5, 0, 1⟩, 1, awK, ⟨[108, 97, 116, 101], false, false, false, false, 1099511627776, 0, 0⟩, []⟩
def awL : List CEvent := [awE1, awE2]
section
variable [Inhabited DrP]
theorem qtt {b : Nat} {m : CMap} {x : CItem} (hS : Stands b m) (hI : qby m = [x]) (hx : x.cookie.value = [108, 97, 116, 101]) (hD : (qgE m awK).length = 2) : wp (cfgE qr9 (fun _ _ => none)) 2000
  ⟨zz60, 41, 0, [.code (qo4 5 (Tryz.f13.body.getD .skip))], ⟨[(1, .wp ⟨b, 0, none⟩), (2, .rptr awK.enc 0)], ⟨0, []⟩, []⟩⟩ isT := by
 (conv => whnf)
 refine ⟨some (b, m), ?_⟩
 repeat ((conv => whnf); first | refine ⟨rfl, ?_⟩ | refine ⟨trivial, ?_⟩)
 refine ⟨hS, ?_⟩; have hI' : qby (Mp.m (some (b, m))) = [x] := hI; have hD' : (qgE (Mp.m ((some (b, m), awK) : Mp × CKey).1) ((some (b, m), awK) : Mp × CKey).2).length = 2 := hD
 (conv => whnf)
 refine br_iff.2 ⟨fun _ => ?_, fun h => absurd h (by rw [hI']; simp)⟩
 (conv => whnf)
 refine so_iff.2 ⟨x, by rw [hI']; rfl, ?_⟩
 (conv => whnf)
 refine br_iff.2 ⟨fun _ => ?_, fun h => absurd h (by rw [hx]; simp)⟩
 (conv => whnf)
 refine ⟨((some (b, m), awK) : Mp × CKey), ?_⟩
 repeat ((conv => whnf); first | refine ⟨rfl, ?_⟩ | refine ⟨trivial, ?_⟩)
 refine ⟨hS, ?_⟩
 (conv => whnf)
 rw [hD']; rfl
end
theorem aw_light : qjz awL := ⟨by decide, by decide +kernel⟩
theorem qpu : qby (qba awL) = [⟨awK, awE2.cookie⟩] := by kernel_rfl
theorem qrV : (qgE (qba awL) awK).length = 2 := by kernel_rfl
theorem qfn {w : World} {b o : Nat} {arr : Array Value} {ty : TypeId} {fz : Nat × Nat} (h : w.heap[b]? = some (.cells arr ty fz)) : w.cell? ⟨b, o, none⟩ = arr[o]? := by simp [World.cell?, h]
theorem ok0 : okM qdu := ⟨by decide, fun x hx => (by cases hx), by decide, by decide⟩
theorem ok1 : okM (qay qdu awE1).1 := by
 letI : Inhabited DrP := ⟨⟨True, #[]⟩⟩
 exact (qcm (l := awL) aw_light.2 1 (by decide)).ok (by decide)
theorem qwg (w : World) : Calls Tryz.prog 13 #[] w fun e w' => e = .returned (.bool true) /\ Below w.heap.size w w' := by
 refine qfK Tryz.func13 rfl ?_; simp only [Tryz.ntmps13, List.size_toArray, List.length_cons, List.length_nil, Nat.reduceAdd, Nat.reduceSub, Array.replicate_succ, Array.replicate_zero, List.push_toArray, List.append_toArray, List.nil_append, List.cons_append]; refine Mid.next Tryz.func13 ?_; go_wp2; show Mid _ _ _ _ _ _
 refine Mid.next Tryz.func13 ?_; have hnew := qvD w; go_wp2_with (go_at_call 14; refine hnew.mono ?_; rintro e w1 ⟨b, bk, ba, bd, bs, bv, rfl, hO, hb1⟩)
 show Mid _ _ _ _ _ _
 refine Mid.next Tryz.func13 ?_; go_wp2; show Mid _ _ _ _ _ _
 obtain ⟨W, hW⟩ : ∃ W, w1.alloc (.cells #[.string ⟨#[110]⟩, .string ⟨#[100]⟩, .string ⟨#[47]⟩] 24) = W := ⟨_, rfl⟩; rw [hW]; have hbW : Below w1.heap.size w1 W := by rw [<- hW]; exact (Below.refl _ _).alloc (Nat.le_refl _) _
 have hbb : W.heap[w1.heap.size]? = some (.cells #[.string ⟨#[110]⟩, .string ⟨#[100]⟩, .string ⟨#[47]⟩] 24 (0, 0)) := by rw [<- hW]; exact World.alloc_heap_new _ _
 have d0 := qfn (o := 0) hbb; have d1 := qfn (o := 1) hbb; have d2 := qfn (o := 2) hbb; have hOW := hO.below hbW; have happ1 := Tryz.apply hOW qvz (Nat.le_trans hb1.size hbW.size) (e := awE1) (u := (.agg #[.int .i64 0, .int .i64 1, .int .i64 1, .int .i64 0, .int .i64 0, .int .i64 0, .int .i64 1, .string ⟨#[110]⟩, .string ⟨#[100]⟩, .string ⟨#[47]⟩, .string ⟨#[]⟩, .bool false, .bool false, .bool false, .bool false, .int .i64 1099511627776, .int .i64 0, .int .i64 0, .slice none 0 0])) ⟨.slice none 0 0, rfl, .inl ⟨rfl, none, 0, rfl⟩⟩ ⟨by decide, by decide⟩ (by decide) ok0; refine Mid.next Tryz.func13 ?_; go_wp2_with (go_at_call 15; refine happ1.mono ?_; rintro e w2 ⟨rfl, hb2, hc2, G2, hO2, hg2⟩)
 show Mid _ _ _ _ _ _
 have hbb2 := hc2 _ _ _ _ hbb; have d0 := qfn (o := 0) hbb2; have d1 := qfn (o := 1) hbb2; have d2 := qfn (o := 2) hbb2; have hz2 : w.heap.size <= w2.heap.size := Nat.le_trans (Nat.le_trans hb1.size hbW.size) hb2.size; have happ2 := Tryz.apply hO2 hg2 hz2 (e := awE2) (u := (.agg #[.int .i64 1, .int .i64 1, .int .i64 1, .int .i64 5, .int .i64 0, .int .i64 1, .int .i64 1, .string ⟨#[110]⟩, .string ⟨#[100]⟩, .string ⟨#[47]⟩, .string ⟨#[108, 97, 116, 101]⟩, .bool false, .bool false, .bool false, .bool false, .int .i64 1099511627776, .int .i64 0, .int .i64 0, .slice none 0 0])) ⟨.slice none 0 0, rfl, .inl ⟨rfl, none, 0, rfl⟩⟩ ⟨by decide, by decide⟩ (by decide) ok1; refine Mid.next Tryz.func13 ?_; go_wp2_with (go_at_call 15; refine happ2.mono ?_; rintro e w3 ⟨rfl, hb3, hc3, G3, hO3, hg3⟩)
 show Mid _ _ _ _ _ _
 have hbb3 := hc3 _ _ _ _ hbb2; have hS := qg8 (l := awL) hO3 hg3 aw_light; letI : Inhabited DrP := qiX w3
 refine Mid.mono (qvF (n := 2000) (c := qo4 5 (Tryz.f13.body.getD .skip)) zz1 rfl (qlD (qkm w3)) rfl (qtt hS qpu rfl qrV) ?_ (qll w3)) ?_
 · exact .cons rfl (.wp _) (qj2 rfl hbb3 .nil)
 · rintro e w' ⟨rfl, hb'⟩; have h1 := Nat.le_trans hz2 hb3.size; exact ⟨rfl, (((hb1.trans (hbW.mono hb1.size)).trans hb2).trans hb3).trans (hb'.mono h1)⟩
end Go.Proofs
namespace Go.Sy
open Go.Am Go.RowKit
universe u v
section
variable {H : Type} {enc : TypeId × Value -> H} {P : Program} {w : World} {base : Nat} {spare : Nat -> Bool} {held : Bool} {Fz : Nat -> Option AO} {N : Nat}
def Lies (Fz : Nat -> Option AO) (N : Nat) (l : List SV) (cs : List Value) : Prop := l.length = cs.length /\ ∀ (j : Nat) v u, l[j]? = some v -> cs[j]? = some u -> SimP Fz v (absV N u)
theorem Lies.nil : Lies Fz N [] [] := ⟨rfl, fun j v u h => by simp at h⟩
theorem Lies.cons {s : SV} {v : Value} {l : List SV} {m : List Value} (h : SimP Fz s (absV N v)) (t : Lies Fz N l m) : Lies Fz N (s :: l) (v :: m) := by
 refine ⟨by simp [t.1], fun i a b ha hb => ?_⟩
 cases i with
 | zero => simp at ha hb; subst ha; subst hb; exact h
 | succ i => exact t.2 i a b (by simpa using ha) (by simpa using hb)
theorem Lies.append {l l' : List SV} {m m' : List Value} (h : Lies Fz N l m) (h' : Lies Fz N l' m') : Lies Fz N (l ++ l') (m ++ m') := by
 refine ⟨by simp [h.1, h'.1], fun i a b ha hb => ?_⟩; by_cases hi : i < l.length
 · rw [List.getElem?_append_left hi] at ha; rw [List.getElem?_append_left (by rw [<- h.1]; exact hi)] at hb; exact h.2 i a b ha hb
 · rw [List.getElem?_append_right (by omega)] at ha; rw [List.getElem?_append_right (by rw [<- h.1]; omega), <- h.1] at hb; exact h'.2 _ a b ha hb
structure Dec (P : Program) (w : World) (base : Nat) (spare : Nat -> Bool) (held : Bool) {H : Type} (henc : TypeId × Value -> H) (Fz : Nat -> Option AO) (N : Nat) (t : TypeId) (X : Type) (enc : X -> List SV) : Prop where
 one : ∀ fuel cs x, DataW.trod henc P w base spare held fuel t cs = some x -> ∃ y : X, Lies Fz N (enc y) cs
variable (enc) in
abbrev Dec' (P : Program) (w : World) (base : Nat) (spare : Nat -> Bool) (held : Bool) (Fz : Nat -> Option AO) (N : Nat) (t : TypeId) (X : Type) (e : X -> List SV) : Prop := Dec P w base spare held enc Fz N t X e
theorem Dec.bool {t : TypeId} (ht : P.underlying t = some .bool) : Dec' enc P w base spare held Fz N t Bool (fun b => [.bool b]) := by
 refine ⟨fun fuel cs x h => ?_⟩; obtain ⟨b, rfl, _⟩ := DataW.trod_bool ht h; exact ⟨b, .cons (.bool b) .nil⟩
theorem Dec.int {t : TypeId} {k : IntKind} (ht : P.underlying t = some (.int k)) : Dec' enc P w base spare held Fz N t Int (fun b => [.int k b]) := by
 refine ⟨fun fuel cs x h => ?_⟩; obtain ⟨b, rfl, _⟩ := DataW.trod_int ht h; exact ⟨b, .cons (.int k b) .nil⟩
theorem Dec.str {t : TypeId} (ht : P.underlying t = some .string) : Dec' enc P w base spare held Fz N t (List UInt8) (fun b => [.str b]) := by
 refine ⟨fun fuel cs x h => ?_⟩; obtain ⟨s, rfl, _⟩ := DataW.trod_string ht h; exact ⟨s.data.toList, .cons (.str _) .nil⟩
theorem Dec.map {t : TypeId} {X Y : Type} {e : X -> List SV} {e' : Y -> List SV} (h : Dec' enc P w base spare held Fz N t X e) (f : X -> Y) (hf : ∀ x, e' (f x) = e x) : Dec' enc P w base spare held Fz N t Y e' := by
 refine ⟨fun fuel cs x hx => ?_⟩; obtain ⟨y, hy⟩ := h.one fuel cs x hx; exact ⟨f y, by rw [hf]; exact hy⟩
inductive Decs (P : Program) (w : World) (base : Nat) (spare : Nat -> Bool) (held : Bool) {H : Type} (henc : TypeId × Value -> H) (Fz : Nat -> Option AO) (N : Nat) : Nat -> List Field -> (X : Type) -> (X -> List SV) -> Prop
 | nil {o : Nat} : Decs P w base spare held henc Fz N o [] Unit (fun _ => [])
 | cons {o : Nat} {f : Field} {fs : List Field} {X Y : Type} {e : X -> List SV} {e' : Y -> List SV} (ho : f.offset = o) (h : Dec P w base spare held henc Fz N f.type X e) (t : Decs P w base spare held henc Fz N (o + P.cellsOf f.type) fs Y e') :
  Decs P w base spare held henc Fz N o (f :: fs) (X × Y) (fun y => e y.1 ++ e' y.2)
def sumC (P : Program) : List Field -> Nat
 | [] => 0
 | f :: fs => P.cellsOf f.type + sumC P fs
theorem Decs.run {o : Nat} {fs : List Field} {X : Type} {e : X -> List SV} (h : Decs P w base spare held enc Fz N o fs X e) : ∀ (cs : List Value) (n : Nat), cs.length = o + sumC P fs ->
  (∀ f ∈ fs, ∃ x, DataW.trod enc P w base spare held n f.type ((cs.drop f.offset).take (P.cellsOf f.type)) = some x) -> ∃ y : X, Lies Fz N (e y) (cs.drop o) := by
 induction h with
 | nil =>
  intro cs n hl _; refine ⟨(), ?_⟩; simp only [sumC] at hl; rw [List.drop_of_length_le (by omega)]; exact .nil
 | @cons o f fs X Y e e' ho h t ih =>
  intro cs n hl hf; simp only [sumC] at hl; obtain ⟨x, hx⟩ := hf f List.mem_cons_self; obtain ⟨y, hy⟩ := h.one n _ _ hx; obtain ⟨z, hz⟩ := ih cs n (by omega) (fun g hg => hf g (List.mem_cons_of_mem _ hg)); refine ⟨(y, z), ?_⟩; have := hy.append hz; rw [ho] at this; rw [show List.drop o cs = List.take (P.cellsOf f.type) (List.drop o cs) ++ List.drop (o + P.cellsOf f.type) cs by rw [<- List.drop_drop, List.take_append_drop]]; exact this
theorem Dec.struct {t : TypeId} {fs : Array Field} {X : Type} {e : X -> List SV} (ht : P.underlying t = some (.struct fs)) (hc : P.cellsOf t = sumC P fs.toList) (h : Decs P w base spare held enc Fz N 0 fs.toList X e) : Dec' enc P w base spare held Fz N t X e := by
 refine ⟨fun fuel cs x hx => ?_⟩; obtain ⟨xs, n, _, _, hl, hn, hg⟩ := DataW.trod_struct ht hx; have := h.run cs n (by rw [hl, hc]; simp) (fun f hf => by
  obtain ⟨i, hi⟩ := List.getElem?_of_mem hf; have h1 := hg i f (by simpa using hi); have hlt : i < fs.size := by
   have := (List.getElem?_eq_some_iff.1 hi).1; simpa using this
  rw [List.getElem?_eq_getElem (by omega)] at h1; exact ⟨_, h1⟩)
 simpa using this
end
end Go.Sy
namespace Go.Sy
open Go.Am Go.RowKit
theorem qq4 {Fz : Nat -> Option AO} {N : Nat} {l : List SV} {cs : Array Value} (h : Lies Fz N l cs.toList) : SimP Fz (.agg l) (absA N (.agg cs)) := by
 unfold absA; refine .agg (by simpa using h.1) (fun i c v hc hv => ?_); rw [List.getElem?_map] at hv; obtain ⟨u, hu, rfl⟩ := Option.map_eq_some_iff.1 hv; exact h.2 i c u hc hu
end Go.Sy
namespace Go.Sy
open Go.Am Go.RowKit
variable [Inhabited DrP]
section
variable {H : Type} {enc : TypeId × Value -> H} {P : Program} {tab : Tab} {w : World} {base : Nat} {spare : Nat -> Bool} {held : Bool}
theorem qnM {a : Addr} {k : Nat} {u : Value} (hs : a.spot = none) (h : w.cell? (a.add k) = some u) : ∃ arr e fz, w.heap[a.block]? = some (.cells arr e fz) /\ arr[a.off + k]? = some u := by
 obtain ⟨b, o, s⟩ := a; simp only at hs; subst hs; have e2 : (⟨b, o, none⟩ : Addr).add k = ⟨b, o + k, none⟩ := by unfold Addr.add; split <;> simp_all
 rw [e2] at h; unfold World.cell? at h; split at h
 · rename_i arr e fz hb; simp only [Option.isSome_none, Bool.false_eq_true, if_false] at h; exact ⟨arr, e, fz, hb, h⟩
 · cases h
theorem Dec.slice {t e n : Nat} (ht : P.underlying t = some (.slice e)) (hn : P.cellsOf e = n) (h0 : 0 < n) {X : Type} {ex : X -> List SV} (hx : ∀ x, (ex x).length = n)
   (h : Dec' enc P w base spare held (rowH tab w).get w.heap.size e X ex) : Dec' enc P w base spare held (rowH tab w).get w.heap.size t (List X) (fun L => [.lst X L ex]) := by
 refine ⟨fun fuel cs x hd => ?_⟩; rcases DataW.trod_slice ht hd with ⟨rfl, _⟩ | ⟨a, len, cap, elems, rest, m, _, rfl, _, hb, hle, hc, hel, hi, _, _⟩
 · exact ⟨[], .cons (.lst0 rfl (.inl rfl)) .nil⟩
 · have each : ∀ i : Fin len, ∃ y : X, ∃ cs', w.cells? base (a.add (i.val * n)) n = some cs' /\ Lies (rowH tab w).get w.heap.size (ex y) cs' := by
     intro i; have h1 := hi i.val i.isLt; rw [List.getElem?_eq_getElem (by rw [hel]; exact i.isLt)] at h1; obtain ⟨cs', h2, h3⟩ := Option.bind_eq_some_iff.1 h1; rw [hn] at h2; obtain ⟨y, hy⟩ := h.one _ _ _ h3; exact ⟨y, cs', h2, hy⟩
   obtain ⟨f, hf⟩ := Classical.skolem.1 each; by_cases hl : len = 0
   · subst hl; exact ⟨[], .cons (.lst0 rfl (.inr (.inr ⟨some a, cap, qh5 _ _ _⟩))) .nil⟩
   · have cell : ∀ (i : Fin len) (j : Nat) v, (ex (f i))[j]? = some v -> ∃ u, w.cell? ((a.add (i.val * n)).add j) = some u /\ SimP (rowH tab w).get v (absV w.heap.size u) := by
      intro i j v hv; obtain ⟨cs', h2, h3⟩ := hf i; have hj : j < n := by rw [<- hx (f i)]; exact (List.getElem?_eq_some_iff.1 hv).1
      unfold World.cells? at h2; split at h2
      · have h4 := mapM_some_get h2 j j (by simp [hj]); have hlt : j < cs'.length := by rw [<- h3.1, hx]; exact hj
        rw [List.getElem?_eq_getElem hlt] at h4; exact ⟨_, h4, h3.2 j v _ hv (List.getElem?_eq_getElem hlt)⟩
      · cases h2
     have hadd : ∀ i j, (a.add i).add j = a.add (i + j) := by
      intro i j; unfold Addr.add; by_cases hi : i = 0
      · subst hi; simp
      · by_cases hj : j = 0
        · subst hj; simp [hi]
        · simp [hi, hj, Nat.add_assoc]
     have hl0 : 0 < (ex (f ⟨0, by omega⟩)).length := by rw [hx (f ⟨0, by omega⟩)]; exact h0
     obtain ⟨v0, hv0⟩ : ∃ v, (ex (f ⟨0, by omega⟩))[0]? = some v := ⟨_, List.getElem?_eq_getElem hl0⟩; obtain ⟨u0, hu0, _⟩ := cell ⟨0, by omega⟩ 0 v0 hv0; rw [hadd] at hu0; have hspot : a.spot = none := by
      have := World.cell?_spot hu0; simpa [Addr.add] using this
     obtain ⟨arr, et, fz, hblk, _⟩ := qnM hspot hu0; have hcell : ∀ (i : Nat) x (j : Nat) v, (List.ofFn f)[i]? = some x -> (ex x)[j]? = some v -> ∃ u, arr[a.off + i * n + j]? = some u /\ SimP (rowH tab w).get v (absV w.heap.size u) := by
      intro i x j v hx' hv; have hil : i < len := by have := (List.getElem?_eq_some_iff.1 hx').1; simpa using this
      have hxe : x = f ⟨i, hil⟩ := by
        rw [List.getElem?_eq_getElem (by simpa using hil)] at hx'; simpa using (Option.some.inj hx').symm
      subst hxe; obtain ⟨u, hu, hs⟩ := cell ⟨i, hil⟩ j v hv; rw [hadd] at hu; obtain ⟨arr', et', fz', hblk', hu'⟩ := qnM hspot hu; rw [hblk] at hblk'
      cases hblk'; exact ⟨u, by rw [Nat.add_assoc]; exact hu', hs⟩
     refine ⟨List.ofFn f, .cons ?_ .nil⟩; have hspec : (⟨a.block, a.off, none⟩ : Addr) = a := by obtain ⟨b, o, s⟩ := a; simp only at hspot; subst hspot; rfl
     rw [<- hspec]; have hlast : a.off + (List.ofFn f).length * n <= arr.size := by
      have hl1 : n - 1 < (ex (f ⟨len - 1, by omega⟩)).length := by rw [hx (f ⟨len - 1, by omega⟩)]; omega
      obtain ⟨v1, hv1⟩ : ∃ v, (ex (f ⟨len - 1, by omega⟩))[n - 1]? = some v := ⟨_, List.getElem?_eq_getElem hl1⟩; obtain ⟨u1, hu1, _⟩ := hcell (len - 1) (f ⟨len - 1, by omega⟩) (n - 1) v1 (by rw [List.getElem?_eq_getElem (by simp; omega)]; simp) hv1; have := (Array.getElem?_eq_some_iff.1 hu1).1; simp only [List.length_ofFn]; have e3 : len * n = (len - 1) * n + n := by
        conv => lhs; rw [show len = (len - 1) + 1 by omega]
        rw [Nat.add_mul, Nat.one_mul]
      omega
     exact qiJ hblk h0 (fun x _ => hx x) hlast (by simp) hle hcell
end
end Go.Sy
/- The laws of view: what an argument may be. -/
namespace Go.Proofs.VwL
open Go Go.Am Go.ChangeShapes Go.WideShapes Go.ChangeAt Go.RowKit
open Go.Sy hiding ask
instance noDr : Inhabited DrP := ⟨⟨False, #[]⟩⟩
section
variable {H : Type} {enc : TypeId × Value -> H} {w : World} {base : Nat} {spare : Nat -> Bool} {held : Bool} {Fz : Nat -> Option AO} {N : Nat}
theorem dKey : Dec Tryz.prog w base spare held enc Fz N 24 CKey CKey.enc :=
 Dec.map (Dec.struct Tryz.underlying24 (by kernel_rfl)
  (.cons (by kernel_rfl) (Dec.str Tryz.underlying9) (.cons (by kernel_rfl) (Dec.str Tryz.underlying9) (.cons (by kernel_rfl) (Dec.str Tryz.underlying9) .nil)))) (fun x => ⟨x.1, x.2.1, x.2.2.1⟩) (fun x => rfl)
theorem qsf : Dec Tryz.prog w base spare held enc Fz N 39 CCookie CCookie.enc :=
 Dec.map (Dec.struct Tryz.underlying39 (by kernel_rfl)
  (.cons (by kernel_rfl) (Dec.str Tryz.underlying9) (.cons (by kernel_rfl) (Dec.bool Tryz.underlying4) (.cons (by kernel_rfl) (Dec.bool Tryz.underlying4) (.cons (by kernel_rfl) (Dec.bool Tryz.underlying4) (.cons (by kernel_rfl) (Dec.bool Tryz.underlying4)
   (.cons (by kernel_rfl) (Dec.int Tryz.underlying3) (.cons (by kernel_rfl) (Dec.int Tryz.underlying3) (.cons (by kernel_rfl) (Dec.int Tryz.underlying3) .nil))))))))) (fun x => ⟨x.1, x.2.1, x.2.2.1, x.2.2.2.1, x.2.2.2.2.1, x.2.2.2.2.2.1, x.2.2.2.2.2.2.1, x.2.2.2.2.2.2.2.1⟩) (fun x => rfl)
theorem dDot : Dec Tryz.prog w base spare held enc Fz N 35 CDot CDot.enc :=
 Dec.map (Dec.struct Tryz.underlying35 (by kernel_rfl)
  (.cons (by kernel_rfl) (Dec.struct Tryz.underlying33 (by kernel_rfl) (.cons (by kernel_rfl) (Dec.int Tryz.underlying3) (.cons (by kernel_rfl) (Dec.int Tryz.underlying3) .nil))) (.cons (by kernel_rfl) (Dec.int Tryz.underlying3) .nil))) (fun x => ⟨x.1.1, x.1.2.1, x.2.1⟩) (fun x => rfl)
theorem qt9 : Dec Tryz.prog w base spare held enc Fz N 37 CStamp (fun s => [.int .i64 s.wall, .int .i64 s.count, .int .i64 s.dev]) :=
 Dec.map (Dec.struct Tryz.underlying37 (by kernel_rfl)
  (.cons (by kernel_rfl) (Dec.int Tryz.underlying3) (.cons (by kernel_rfl) (Dec.int Tryz.underlying3) (.cons (by kernel_rfl) (Dec.int Tryz.underlying3) .nil)))) (fun x => ⟨x.1, x.2.1, x.2.2.1⟩) (fun x => rfl)
theorem qvN : Dec Tryz.prog w base spare held enc (rowH Tryz.tab w).get w.heap.size 40 (List CDot) (fun L => [.lst CDot L CDot.enc]) := Dec.slice Tryz.underlying40 (show Tryz.prog.cellsOf 35 = 3 by kernel_rfl) (by omega) (fun _ => rfl) dDot
theorem qt8 : Dec Tryz.prog w base spare held enc (rowH Tryz.tab w).get w.heap.size 42 CEvent CEvent.enc :=
 Dec.map (Dec.struct Tryz.underlying42 (by kernel_rfl)
  (.cons (by kernel_rfl) dDot (.cons (by kernel_rfl) qt9 (.cons (by kernel_rfl) (Dec.int Tryz.underlying3) (.cons (by kernel_rfl) dKey (.cons (by kernel_rfl) qsf (.cons (by kernel_rfl) qvN .nil))))))) (fun x => ⟨x.1, x.2.1, x.2.2.1, x.2.2.2.1, x.2.2.2.2.1, x.2.2.2.2.2.1⟩) (fun x => rfl)
theorem dEvents : Dec Tryz.prog w base spare held enc (rowH Tryz.tab w).get w.heap.size 22 (List CEvent) (fun L => [.lst CEvent L CEvent.enc]) := Dec.slice Tryz.underlying22 (show Tryz.prog.cellsOf 42 = 19 by kernel_rfl) (by omega) (fun _ => rfl) qt8
theorem qkB {b0 : Nat} {r : Reach} {v : Value} {d : DataW H} {p : List MemPlace} (hv : Value.okWide Tryz.prog w r b0 22 v) (h : DataW.Trod enc Tryz.prog w base spare held 22 v d p) :
  ∃ l : List CEvent, EvsV w l v := by
 obtain ⟨a, n, c, rfl⟩ := okWide_slice Tryz.underlying22 hv; obtain ⟨fuel, hf⟩ := h; obtain ⟨l, hl⟩ := dEvents.one _ _ _ hf; exact ⟨l, quc (qrI (hl.2 0 _ _ rfl rfl))⟩
theorem qqp {b0 : Nat} {r : Reach} {v : Value} {d : DataW H} {p : List MemPlace} (hv : Value.okWide Tryz.prog w r b0 24 v) (h : DataW.Trod enc Tryz.prog w base spare held 24 v d p) :
  ∃ k : CKey, v = encK k := by
 obtain ⟨cs, rfl, hsz⟩ := okWide_struct Tryz.underlying24 hv; obtain ⟨fuel, hf⟩ := h; obtain ⟨k, hk⟩ := (dKey (Fz := (rowH Tryz.tab w).get) (N := w.heap.size)).one _ _ _ hf; exact ⟨k, qrH (qrI (qq4 hk))⟩
end
end Go.Proofs.VwL
