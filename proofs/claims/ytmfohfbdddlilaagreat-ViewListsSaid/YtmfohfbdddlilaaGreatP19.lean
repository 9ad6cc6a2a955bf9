/- Part 19: an evaluator, proved sound, and its use at this seat; no condition. -/
import Derived.WalkKit
import Derived.LoopTactic
import Derived.Test.YtmfohfbdddlilaaGreatP10
import Derived.Test.YtmfohfbdddlilaaGreatP17
import Derived.Test.YtmfohfbdddlilaaGreatP18
set_option linter.unusedSimpArgs false
set_option linter.unusedVariables false
set_option linter.unusedSectionVars false
set_option linter.deprecated false
set_option maxRecDepth 100000
set_option maxHeartbeats 40000000
namespace Go.Proofs
open Go Go.Am Go.RowKit Go.Sy Go.Gm
theorem MN {bk ba bd bv i j:Nat} {G:aY} {k:ay} {L:DL} {K:List (ak×(Value×af))} {V:List ((Int×Int)×Int)} {N:Nat} (hal:ar G.alive k=none) (hj:N<=j) (hi:i<N) (h:cU bk ba bd bv ⟨K,bH G.alive k (j,L),G.dead,V⟩ i):cU bk ba bd bv G i:=by
 unfold cU at h⊢;rw[show(bH G.alive k (j,L)).map (fun x=>x.2.1)=G.alive.map (fun x=>x.2.1)++[j]from y6 hal]at h;simp only[Ag,Bc,BT,DQ]at h⊢;rcases h with h|h|h|h|h|h
 . exact .inl h
 . exact .inr (.inl h)
 . exact .inr (.inr (.inl h))
 . exact .inr (.inr (.inr (.inl h)))
 . exact .inr (.inr (.inr (.inr h)))
 . omega
theorem MO {bk ba bd bv i j:Nat} {G:aY} {k:ay} {L L':DL} {K:List (ak×(Value×af))} {V:List ((Int×Int)×Int)} (hn:(G.alive.map (·.1)).Nodup) (hal:ar G.alive k=some (j,L)) (h:cU bk ba bd bv ⟨K,bH G.alive k (j,L'),G.dead,V⟩ i):cU bk ba bd bv G i:=by
 unfold cU at h⊢;rw[show(bH G.alive k (j,L')).map (fun x=>x.2.1)=G.alive.map (fun x=>x.2.1)from rj hn hal rfl]at h;exact h
theorem Ik {G:aY} (hn:(G.alive.map (·.1)).Nodup) (d:ak) {j:Nat} (h:j∈(iP G d).alive.map (·.2.1)):j∈G.alive.map (·.2.1):=by
 unfold iP at h;simp only at h;split at h
 . split at h
   . unfold lX at h;split at h
     . exact h
     . rename_i x hx;split at h
       . obtain⟨y,hy,rfl⟩:=Ar.1 h;exact Ar.2 ⟨y,(Au.1 hy).1,rfl⟩
       . rw[show(bH G.alive _ (x.1,cB x.2 d)).map (fun x=>x.2.1)=G.alive.map (fun x=>x.2.1)from rj hn hx rfl]at h;exact h
   . exact h
 . exact h
theorem zh {G:aY} {l:List ak} {k:Nat} (h:k<l.length):jq G (l.take (k+1))=iP (jq G (l.take k)) l[k]:=by
 unfold jq;rw[AG h,Ew];rfl
theorem Pm {w:World} {n b bk ba bd bs bv:Nat} {G:aY} {m:bh} {e:af} {u:Value} (h:cy w n b bk ba bd bs bv G) (hg:cq G m) (hn:n<=w.heap.size) (hu:gF w u e) (hse:mF e) (hover:e.over.length<=100000) (hseq:∀a i,0<=getM m.ctx a i/\getM m.ctx a i<=4294967296)
  (q1:js e=true) (q2:fj m.ctx e.dot=false) (q3:getM m.ctx e.dot.dev e.dot.inc+1=e.dot.seq) (q4:¬2048<=m.kept.length):
  Calls Tryz.prog 15 #[.pointer (some ⟨b,0,none⟩),u] w fun e' w'=>e'= .returned (.tuple #[.bool true, .int .i64 0])/\dO (cU bk ba bd bv G) w w'/\ ∃G',cy w' n b bk ba bd bs bv G'/\cq G' (eL m e).1:=by
 obtain⟨v,hu,hd⟩:=hu;obtain⟨va,vn,vc,hve⟩:=hd.one;obtain⟨cs,hcs⟩:∃cs:Array Value,Hid ((cm e v).toArray=cs):=⟨_,rfl⟩;have hu':u= .agg cs:=by rw[hu,<-(show(cm e v).toArray=cs from hcs)];rfl
 have hev0:gF w (.agg cs) e:=⟨v,by rw[<-hu',hu],hd⟩;clear hu;subst hu';obtain⟨SZ,mm,hSZ,hsz,hm⟩:=tN;obtain⟨W,hW⟩:∃W,w.alloc (.cells cs 42)=W:=⟨_,rfl⟩;have hb:Below w.heap.size w W:=by rw[<-hW];exact(Below.refl w.heap.size w).alloc (Af _) _
 have hs:W.heap.size=w.heap.size+1:=by rw[<-hW];simp
 have hr:W.rangeAt w.heap.size 0 (cm e v):=by rw[<-hW,<-(show(cm e v).toArray=cs from hcs)];exact qH w e v
 have h0:=h.below hb;have hright:=se (hev0.cells (eb hb)) hse;obtain⟨k0,k1,k2,k6,k18,kl⟩:=ec hr hcs hm;rw[q1]at hright;letI:Inhabited aD:=⟨⟨True,#[]⟩⟩
 have hdot:fN e.dot=true:=tp q1;have hhas:decide (e.dot.seq<=mE G.vec e.dot.dev e.dot.inc)=false:=by
  have hh:decide (e.dot.seq<=mE G.vec e.dot.dev e.dot.inc)=fj m.ctx e.dot:=by
   unfold fj;rw[hdot,BH,gT,hg.vec]
  rw[hh,q2]
 have hwr:IntKind.i64.wrap (getM m.ctx e.dot.dev e.dot.inc+1)=getM m.ctx e.dot.dev e.dot.inc+1:=IntWalk.i64_in _ (by have:=hseq e.dot.dev e.dot.inc;omega);have hne:(e.dot.seq !=getM m.ctx e.dot.dev e.dot.inc+1)=false:=by rw[q3];simp
 have hl:G.kept.length<=100000:=by rw[hg.len];omega
 have hroom:decide (1<=2048 - (G.kept.length:Int))=true:=Dl (by rw[hg.len];omega);have hprev:(ar G.vec (e.dot.dev,e.dot.inc)).getD 0=e.dot.seq - 1:=by
  have:=hg.vec e.dot.dev e.dot.inc;unfold mE at this;rw[this];omega
 have hfin:=fun(v:Value) (nb:Nat)=>(hg.apply v nb q1 q2 q3 q4).1
 have hfinal:Hid (∀(v:Value) (nb:Nat),cq (oA G e v nb) (eL m e).1):=hfin;clear hfin;have hgv:=hg.vec;clear q1 q2 q3 q4 hg;go_enter Tryz.func15,Tryz.ntmps15
 go_wp2_with (go_at_call 65;refine hright.mono ?_;rintro e' w1 ⟨rfl,hb1⟩;have hbf1:=hb.trans (hb1.mono (by omega));have h1:=h0.below hb1;have r1:=eX (eb hb1) hr;obtain⟨a0,a1,a2,a6,a18,al⟩:=ec r1 hcs hm;have a3:=h1.c3;have h1d:=h1.below (Below.refl w1.heap.size w1).drew;have hv1:=mY h1d.cv h1d.mv e.dot.dev e.dot.inc e.dot.seq hdot;rw[hhas]at hv1;have hev1:=(hev0.cells (eb hb)).cells (eb hb1);clear k0 k1 k2 k6 k18 kl h1d)
 go_region_held3 (fun w'=>w'.cell? ⟨b,3,none⟩=some (.pointer (some ⟨bs,0,none⟩))/\w'.cell? ⟨w.heap.size,0,none⟩=some (.int .i64 e.dot.dev)/\w'.cell? ⟨w.heap.size,1,none⟩=some (.int .i64 e.dot.inc)/\w'.cell? ⟨w.heap.size,2,none⟩=some (.int .i64 e.dot.seq)) (simp[*]) (first|(go_at_call 66;refine hv1.mono ?_;rintro e' w2 ⟨rfl,hb2⟩;have hbf2:=hbf1.drew.trans (hb2.mono (by have:=hbf1.size;show _<=w1.heap.size;omega));have h2:=(h1.below (Below.refl w1.heap.size w1).drew).below hb2;have r2:=eX (eb hb2) (eX (eb (Below.refl w1.heap.size w1).drew) r1);obtain⟨b0,b1,b2,b6,b18,bl⟩:=ec r2 hcs hm;have b3:=h2.c3;have h2d:=h2.below (Below.refl w2.heap.size w2).drew;have hv2:=ka h2d.cv h2d.mv e.dot.dev e.dot.inc;rw[show(ar G.vec (e.dot.dev,e.dot.inc)).getD 0=getM m.ctx e.dot.dev e.dot.inc from hgv _ _]at hv2;have hev2:gF w2 (.agg cs) e:=hev1.cells (fun bb arr t fz hx=>eb hb2 bb arr t fz hx);clear a0 a1 a2 a6 a18 al a3 hv1 h2d))
 all_goals go_wp2_with fail
 all_goals go_region_held3 (fun w'=>w'.cell? ⟨b,3,none⟩=some (.pointer (some ⟨bs,0,none⟩))/\w'.cell? ⟨w.heap.size,0,none⟩=some (.int .i64 e.dot.dev)/\w'.cell? ⟨w.heap.size,1,none⟩=some (.int .i64 e.dot.inc)/\w'.cell? ⟨w.heap.size,2,none⟩=some (.int .i64 e.dot.seq)) (simp[*]) (first|(go_at_call 67;refine hv2.mono ?_;rintro e' w3 ⟨rfl,hb3⟩;have hbf3:=hbf2.drew.trans (hb3.mono (by have:=hbf2.size;show _<=w2.heap.size;omega));have h3:=(h2.below (Below.refl w2.heap.size w2).drew).below hb3;have hv3:=Tryz.room h3 hl;rw[hroom]at hv3;have r3:=eX (eb hb3) (eX (eb (Below.refl w2.heap.size w2).drew) r2);obtain⟨c0,c1,c2,c6,c18,cl⟩:=ec r3 hcs hm;have c3:=h3.c3;have hev3:gF w3 (.agg cs) e:=hev2.cells (fun bb arr t fz hx=>eb hb3 bb arr t fz hx);clear b0 b1 b2 b6 b18 bl b3 hv2))
 all_goals go_wp2_with (go_at_call 68;refine hv3.mono ?_;rintro e' w4 ⟨rfl,rfl⟩;have h3d:=h3.below (Below.refl w4.heap.size w4).drew;have hv4:=PY h3d.cv h3d.mv e.dot.dev e.dot.inc e.dot.seq (fun hh=>sD h3d.cv (by rw[hh];exact aj.isMap h3d.mv)) hdot hprev;clear hv3)
 all_goals go_region_held3 (fun w'=>w'.cell? ⟨b,3,none⟩=some (.pointer (some ⟨bs,0,none⟩))/\w'.cell? ⟨w.heap.size,0,none⟩=some (.int .i64 e.dot.dev)/\w'.cell? ⟨w.heap.size,1,none⟩=some (.int .i64 e.dot.inc)/\w'.cell? ⟨w.heap.size,2,none⟩=some (.int .i64 e.dot.seq)) (simp[*]) (first|(go_at_call 69;refine hv4.mono ?_;rintro e' w5 ⟨rfl,hb5,hmv5⟩;have h5:=h3d.nJ hb5 hmv5;have hbut5:dO (cU bk ba bd bv G) w w5:=(ke hbf3.drew).trans (hb5.mono fun k _ hk=>by(rw[hk];unfold cU;simp));have hc5:jy w4.drew w5:=hb5.cells (fun k hk=>by(rw[hk];exact aj.isMap h3d.mv));have r5:=eX hc5 (eX (eb (Below.refl w4.heap.size w4).drew) r3);obtain⟨d0,d1,d2,d6,d18,dl⟩:=ec r5 hcs hm;have d3:=h5.c3;have e0:=h5.c0;obtain⟨-, -, -, -, -,dl'⟩:=ec (eX (eb (Below.refl w5.heap.size w5).drew) r5) hcs hm;have hev5:gF w5.drew (.agg cs) e:=hev3.cells (fun bb arr t fz hx=>hc5 bb arr t fz hx);have hv5:=Qq hev5 hover;clear c0 c1 c2 c6 c18 cl c3 hv4))
 all_goals go_wp2_with fail
 all_goals go_region_held3 (fun w'=>w'.cell? ⟨b,0,none⟩=some (.map (some bk))/\w'.cell? ⟨w.heap.size,0,none⟩=some (.int .i64 e.dot.dev)/\w'.cell? ⟨w.heap.size,1,none⟩=some (.int .i64 e.dot.inc)/\w'.cell? ⟨w.heap.size,2,none⟩=some (.int .i64 e.dot.seq)/\(loadCellsFrom ⟨w.heap.size,0,none⟩ 0 mm #[]).run Tryz.prog w'= .ok cs w') (simp[*]) (first|(go_at_call 70;refine hv5.mono ?_;rintro e' w6 ⟨u',rfl,hev6,hb6⟩;have h6:=(h5.below (Below.refl w5.heap.size w5).drew).below hb6;have r6:=eX (eb hb6) (eX (eb (Below.refl w5.heap.size w5).drew) r5);obtain⟨f0,f1,f2,f6,f18,fl⟩:=ec r6 hcs hm;have f3:=h6.c0;obtain⟨es,clk,hup,hmu⟩:=h6.gL.update gp Tryz.underlying99 e.dot (u',e);rw[show bp e.dot= .agg #[.int .i64 e.dot.dev, .int .i64 e.dot.inc, .int .i64 e.dot.seq]from rfl,show oH (u',e)=u' from rfl]at hup;have h7:=h6.mR (x:=(u',e)) hev6 hmu;have hbut6:dO (cU bk ba bd bv G) w w6:=hbut5.drew.trans (ke hb6);have hbut7:dO (cU bk ba bd bv G) w (World.aL w6 bk (.map es clk)):=hbut6.trans (tB (aj.isMap h6.gL) (by(unfold cU;simp)));have r7:(World.aL w6 bk (.map es clk)).rangeAt w.heap.size 0 (cm e v):=eX (zr (aj.isMap h6.gL)) r6;obtain⟨W7,hW7⟩:∃W7,World.aL w6 bk (.map es clk)=W7:=⟨_,rfl⟩;rw[hW7]at hup h7 hbut7 r7;obtain⟨g0,g1,g2,g6,g18,gl⟩:=ec r7 hcs hm;have g3:=h7.c0;clear d0 d1 d2 d6 d18 dl d3 e0 hv5 hmu))
 rename_i Q0 K0 hK0 hS0;clear hS0;refine hK0 _ _ ?_;apply wp_seq_k;intro K1 hK1;go_cut []from 6 (fun wc=>dO (cU bk ba bd bv G) w wc/\(∃nb,cy wc n b bk ba bd bs bv (gk (fD G e u') e nb)/\ ∀i,i<w.heap.size->cU bk ba bd bv (gk (fD G e u') e nb) i->cU bk ba bd bv G i)/\wc.rangeAt w.heap.size 0 (cm e v))
 case rest=>
  obtain⟨hbutc,⟨nb,hc,hmc⟩,rc⟩:=hcut;have hmapsW:=h.maps;obtain⟨p0,p1,p2,p6,p18,pl⟩:=ec rc hcs hm;rw[hve]at p18;have hlenv:vn=e.over.length:=by
   rw[hve]at hd;rcases hd with⟨h0,a,c,hh⟩|⟨_,_,_,_,_,_,hh,_⟩
   . cases hh;rw[h0];rfl
   . cases hh;rfl
  subst hlenv;clear h h0 hr hright hev0;go_wp2;go_loopw [72] (fun i wr=>∃k:Nat,k<=e.over.length/\i= .int .i64 k/\dO (cU bk ba bd bv G) w wr/\cy wr n b bk ba bd bs bv (jq (gk (fD G e u') e nb) (e.over.take k))/\ ∀i,i<w.heap.size->cU bk ba bd bv (jq (gk (fD G e u') e nb) (e.over.take k)) i->cU bk ba bd bv G i)
   (fun i _=>e.over.length - (intOf i).toNat)
  case atStart=>exact⟨0,Bf _,rfl,hbutc,by rw[EE];exact hc,by rw[EE];exact hmc⟩
  case round=>
   obtain⟨k,hk,rfl,hbr,hor,hmr⟩:=hrel;by_cases hlt:k<e.over.length
   . have hstay:jy w wr:=hbr.cells hmapsW;rw[hve]at hd;rcases hd with⟨h0,_⟩|⟨ob,off,cap,arr,ty,fz,hh,hob,hcap,hlen,hcells⟩
     . rw[h0]at hlt;exact absurd hlt (Bw _)
     . simp only[Value.slice.injEq]at hh;obtain⟨rfl, -,rfl⟩:=hh;obtain⟨x0,x1,x2⟩:=hcells k hlt;have hobr:=hstay _ _ _ _ hob;have cell:∀{j:Nat} {u:Value},arr[j]? =some u->wr.cell? ⟨ob,j,none⟩=some u:=fun hx=>by
        unfold World.cell?;simp only[hobr,A1,Ai,Az];exact hx
       have c0:=cell x0;have c1:=cell x1;have c2:=cell x2;have hba:Below wr.heap.size wr (wr.alloc (.cells #[.int .i64 e.over[k].dev, .int .i64 e.over[k].inc, .int .i64 e.over[k].seq] 35)):=(Below.refl wr.heap.size wr).alloc (Af _) _;have hkill:=Tryz.kill (hor.below hba) e.over[k];have hnda:=hor.ma.nd;have hwrs:=hbr.size;rw[show bp e.over[k]= .agg #[.int .i64 e.over[k].dev, .int .i64 e.over[k].inc, .int .i64 e.over[k].seq]from rfl]at hkill;clear hcells x0 x1 x2 cell hob hobr hstay hlen rc hc hbutc p0 p1 p2 p6 pl p18;go_wp2_with (go_at_call 73;refine hkill.mono ?_;rintro e' w9 ⟨rfl,hb9,h9⟩;have R1:dO (cU bk ba bd bv G) w w9:=(hbr.more (ke (S:=fun _=>False) hba) (fun _ _ h=>h.elim)).more hb9 (fun i hi hh=>hmr i hi hh);rw[<-zh hlt]at h9)
       go_roundw
       case rel=>
        refine⟨k+1,hlt,by go_num,R1,h9,fun i hi hh=>hmr i hi ?_⟩;rw[zh hlt]at hh;unfold cU at hh⊢;simp only[Ag]at hh⊢;rcases hh with hh|hh|hh|hh|hh
        . exact .inl hh
        . exact .inr (.inl hh)
        . exact .inr (.inr (.inl hh))
        . exact .inr (.inr (.inr (.inl hh)))
        . exact .inr (.inr (.inr (.inr (Ik hnda _ hh))))
       case measure=>simp[intOf];omega
   . have hkl:k=e.over.length:=by omega
     subst hkl;rw[Bz]at hor;go_wp2;refine bodyPost_ret (results_tmp2 rfl _ _ _) rfl ?_;exact⟨rfl,hbr,_,hor,(show ∀(v:Value) (nb:Nat),cq (oA G e v nb) (eL m e).1 from hfinal) u' nb⟩
 case first=>
  have h7':cy W7 n b bk ba bd bs bv (fD G e u'):=h7;have hencv:gB e v= .agg cs:=by rw[<-(show(cm e v).toArray=cs from hcs)];rfl
  by_cases kd:e.kind=1
  case neg=>
   have hL:gk (fD G e u') e 0=fD G e u':=by unfold gk;rw[if_neg (fun hh=>kd hh.1)]
   go_wp2;go_meet
   case rel=>exact⟨hbut7,⟨0,by rw[hL];exact⟨h7',fun _ _ hh=>hh⟩⟩,r7⟩
  case pos=>
   rw[kd]at g6;have hdead:=Tryz.dead h7' e.dot;rw[show bp e.dot= .agg #[.int .i64 e.dot.dev, .int .i64 e.dot.inc, .int .i64 e.dot.seq]from rfl,show(fD G e u').dead=G.dead from rfl]at hdead
   cases hdd:ar G.dead e.dot with
   | some z=>
     rw[hdd]at hdead;have hL:gk (fD G e u') e 0=fD G e u':=by
       unfold gk;rw[if_neg (fun hh=>by have:=hh.2;rw[show(fD G e u').dead=G.dead from rfl,hdd]at this;cases this)]
     go_wp2_with (go_at_call 71;refine hdead.mono ?_;rintro e' w8 ⟨rfl,hb8⟩;have h8:=h7'.below hb8;have r8:=eX (eb hb8) r7;have hbut8:=hbut7.more (ke (S:=fun _=>False) hb8) (fun _ _ h=>h.elim))
     go_meet
     case rel=>exact⟨hbut8,⟨0,by rw[hL];exact⟨h8,fun _ _ hh=>hh⟩⟩,r8⟩
   | none=>
     rw[hdd]at hdead
     cases hal:ar G.alive e.key with
     | none=>
       have hL:∀nb,gk (fD G e u') e nb={fD G e u' with alive:=bH G.alive e.key (nb,[(e.dot,1)])}:=fun nb=>by
        unfold gk nu;rw[if_pos ⟨kd,hdd⟩,show(fD G e u').alive=G.alive from rfl,hal]
       go_wp2_with (first
        |(go_at_call 71;refine hdead.mono ?_;rintro e' w8 ⟨rfl,hb8⟩;have h8:=h7'.below hb8;have r8:=eX (eb hb8) r7;have hbut8:=hbut7.more (ke (S:=fun _=>False) hb8) (fun _ _ h=>h.elim);obtain⟨j0,j1,j2,j6,j18,jl⟩:=ec r8 hcs hm;have hlive:=Pp h8 (by have:=hbut8.size;omega) e v hal;rw[hencv]at hlive)
        |(go_at_call 72;refine hlive.mono ?_;rintro e' w9 ⟨rfl,hb9,nb,hnb,h9⟩;have r9:=eX (hb9.cells h8.maps) r8;have hbut9:dO (cU bk ba bd bv G) w w9:=hbut8.trans hb9))
       go_meet
       case rel=>exact⟨hbut9,⟨nb,by rw[hL];exact⟨h9,fun i hi hh=>MN hal (by have:=hbut8.size;omega) hi hh⟩⟩,r9⟩
     | some x=>
       obtain⟨jb,L⟩:=x;have hL:gk (fD G e u') e 0={fD G e u' with alive:=bH G.alive e.key (jb,bH L e.dot 1)}:=by
        unfold gk nu;rw[if_pos ⟨kd,hdd⟩,show(fD G e u').alive=G.alive from rfl,hal]
       go_wp2_with (first
        |(go_at_call 71;refine hdead.mono ?_;rintro e' w8 ⟨rfl,hb8⟩;have h8:=h7'.below hb8;have r8:=eX (eb hb8) r7;have hbut8:=hbut7.more (ke (S:=fun _=>False) hb8) (fun _ _ h=>h.elim);obtain⟨j0,j1,j2,j6,j18,jl⟩:=ec r8 hcs hm;have hlive:=Pq h8 e v hal;rw[hencv]at hlive)
        |(go_at_call 72;refine hlive.mono ?_;rintro e' w9 ⟨rfl,hb9,h9⟩;have r9:=eX (hb9.cells h8.maps) r8;have hbut9:dO (cU bk ba bd bv G) w w9:=hbut8.trans hb9))
       go_meet
       case rel=>exact⟨hbut9,⟨0,by rw[hL];exact⟨h9,fun i hi hh=>MO h.ma.nd hal hh⟩⟩,r9⟩
end Go.Proofs
namespace Go.Proofs
open Go Go.Am Go.RowKit Go.Sy Go.Gm Go.Maps Go.Sort Go.Shelf
section
inductive Flat:SV->Prop
 |bool (b:Bool):Flat (.bool b)
 |int (k:IntKind) (n:Int):Flat (.int k n)
 |str (s:List UInt8):Flat (.str s)
 |wp (a:Addr):Flat (.wp a)
 |aw {X:Type} {L:List X} {enc:X->List SV} (h:∀(i:Nat) x (j:Nat) v,L[i]? =some x->(enc x)[j]? =some v->Flat v):Flat (.aw X L enc)
section
variable [Inhabited aD] {tab:aR} {w:World} {p:Nat->Prop} {g:Bool}
theorem Gx {s:SV} {v:Value} (h:aF (bK tab w).get s (dm w.heap.size v)):Rd w (fun _=>True) true s v:=by
 have:=tn (ow tab w (E:=⟨fun i=>i,fun _=>0⟩) (fun _ _=>rfl)) (fun _ _ h=>h) h;rwa [wi (fun _ _=>rfl)]at this
end
def nD (w:World) (l:List af) (v:Value):Prop:=(l=[]/\ ∃a c,v= .slice a 0 c)\/ ∃b off cap arr e fz,v= .slice (some ⟨b,off,none⟩) l.length cap/\w.heap[b]? =some (.cells arr e fz)/\l.length<=cap/\off+l.length*19<=arr.size/\
 ∀i (h:i<l.length),∃u,(∀j,j<19->arr[off+i*19+j]? =(cm l[i] u)[j]?)/\cV w l[i].over u
theorem nD.cells {w w':World} (hc:jy w w') {l:List af} {v:Value} (h:nD w l v):nD w' l v:=by
 rcases h with h|⟨b,off,cap,arr,e,fz,h1,h2,h3,h5,h4⟩
 . exact .inl h
 . exact .inr ⟨b,off,cap,arr,e,fz,h1,hc _ _ _ _ h2,h3,h5,fun i hi=>by obtain⟨u,k1,k2⟩:=h4 i hi;exact⟨u,k1,k2.cells hc⟩⟩
theorem cy.heap {w w':World} {n b bk ba bd bs bv:Nat} {G:aY} (h:cy w n b bk ba bd bs bv G) (hs:∀i,i<w.heap.size->w'.heap[i]? =w.heap[i]?):cy w' n b bk ba bd bs bv G where
 c0:=dL h.c0 (hs _ (gr h.c0))
 c1:=dL h.c1 (hs _ (gr h.c1))
 c2:=dL h.c2 (hs _ (gr h.c2))
 c3:=dL h.c3 (hs _ (gr h.c3))
 cv:=dL h.cv (hs _ (gr h.cv))
 gL:=h.gL.same (hs _ h.gL.lt)
 ma:=h.ma.same (hs _ h.ma.lt)
 md:=h.md.same (hs _ h.md.lt)
 mv:=h.mv.same (hs _ h.mv.lt)
 mi:=fun x hx=>(h.mi x hx).same (hs _ (h.mi x hx).lt)
 nd:=h.nd
 low:=h.low
 ev:=fun x hx=>(h.ev x hx).cells fun c arr e fz hc=>by rw[hs _ (Aa.1 hc).1];exact hc
abbrev oF (w:World):Inhabited aD:=⟨⟨False,w.heap⟩⟩
theorem LZ (w:World): @cA (oF w) w:=by intro b _;rfl
theorem Nh (w:World):¬(@default aD (oF w)).dr:=fun h=>h
theorem K9 {w:World} {n b bk ba bd bs bv:Nat} {G:aY} {m:bh} (h:cy w n b bk ba bd bs bv G) (g:cq G m) (ok:lJ m) (hov:∀e∈m.kept,e.over.length<=100000): @db (oF w) b m:=
 letI:Inhabited aD:=oF w
 ⟨ok,hov,fun w' hw=>⟨n,bk,ba,bd,bs,bv,G,h.heap fun i hi=>hw i hi,g⟩⟩
theorem Tryz.apply {w:World} {n b bk ba bd bs bv:Nat} {G:aY} {m:bh} {e:af} {u:Value} (h:cy w n b bk ba bd bs bv G) (hg:cq G m) (hn:n<=w.heap.size) (hu:gF w u e) (hse:mF e) (hover:e.over.length<=100000) (ok:lJ m):
  Calls Tryz.prog 15 #[.pointer (some ⟨b,0,none⟩),u] w fun e' w'=>e'= .returned (.tuple #[.bool (eL m e).2.1, .int .i64 (eL m e).2.2])/\Below n w w'/\jy w w'/\ ∃G',cy w' n b bk ba bd bs bv G'/\cq G' (eL m e).1:=by
 letI:Inhabited aD:=⟨⟨True,#[]⟩⟩
 have hseq:=JZ ok.seq;have hl:G.kept.length<=100000:=by rw[hg.len];have:=ok.kept;omega
 cases hA:(eL m e).2.1 with
 |false=>
  refine(Px h hg hu hse hl hseq hA).mono ?_;rintro e' w' ⟨rfl,he,hb⟩;exact⟨rfl,hb.mono hn,eb hb,G,h.below hb,by rw[he];exact hg⟩
 |true=>
  have hq:js e=true/\fj m.ctx e.dot=false/\getM m.ctx e.dot.dev e.dot.inc+1=e.dot.seq/\ ¬2048<=m.kept.length/\(eL m e).2.2=0:=by
    unfold eL at hA⊢;split at hA
    . cases hA
    split at hA
    . cases hA
    split at hA
    . cases hA
    split at hA
    . cases hA
    rename_i q1 q2 q3 q4;rw[if_neg q1,if_neg q2,if_neg q3,if_neg q4];exact⟨by simpa using q1,by simpa using q2,by simpa using q3,q4,rfl⟩
  obtain⟨q1,q2,q3,q4,q5⟩:=hq;rw[q5];refine(Pm h hg hn hu hse hover hseq q1 q2 q3 q4).mono ?_;rintro e' w' ⟨rfl,hb,G',h1,h2⟩;have hmaps:=h.maps;refine⟨rfl,⟨hb.os,hb.tape,hb.output,hb.size,fun k hk=>hb.block k (by omega) fun hm=>?_⟩,fun c arr ty fz hc=>?_,G',h1,h2⟩
  . have:=h.low k (by unfold cU at hm;simp only[Ag]at hm⊢;exact .inr (.inr hm));omega
  . rw[hb.block c (Aa.1 hc).1 fun hm=>?_]
    . exact hc
    . obtain⟨es,clk,he⟩:=hmaps c hm;rw[hc]at he;cases he
end
section
variable [Inhabited aD]
end
section
section
variable [Inhabited aD]
end
end
theorem MV [Inhabited aD] {m:bh} {e x:af} (h:x∈(eL m e).1.kept):x∈m.kept\/x=e:=by
 unfold eL at h;split at h
 . exact .inl h
 split at h
 . exact .inl h
 split at h
 . exact .inl h
 split at h
 . exact .inl h
 unfold gi at h;rcases Bc.1 h with h|h
 . exact .inl (Eh h)
 . rcases Ag.1 h with h|h
   . exact .inr h
   . exact .inl (List.mem_of_mem_drop h)
theorem MB [Inhabited aD] (l:List af) {x:af} (h:x∈(kC l).kept):x∈l:=by
 have key:∀(l:List af) (m:bh),x∈(l.foldl (fun m e=>(eL m e).1) m).kept->x∈m.kept\/x∈l:=by
   intro l;induction l with
   |nil=>intro m h;exact .inl h
   |cons e l ih=>
    intro m h;rcases ih _ h with h|h
    . rcases MV h with h|rfl
      . exact .inl h
      . exact .inr An
    . exact .inr (Al _ h)
 rcases key l kW h with h|h
 . cases h
 . exact h
theorem I9 {w:World} {n b bk ba bd bs bv:Nat} {G:aY} {l:List af} (h:cy w n b bk ba bd bs bv G) (g:cq G (kC l)) (hl:Gp l): @db (oF w) b (kC l):=by
 letI:Inhabited aD:=oF w
 have hb:=vP hl.2 l.length (Af _);rw[Bz]at hb;exact K9 h g (hb.ok (by have:=hl.1;omega)) fun e he=>by
  have:=(yZ (hl.2 e (MB l he))).2;omega
theorem K7 [Inhabited aD] {tab:aR} {w:World} {tmps:Array Value} {ts:Fr} {t b:Nat} {k:ay} {ty:TypeId} {fz:Nat×Nat} (h1:tmps[t]? =some (.pointer (some ⟨b,0,none⟩))) (hb:w.heap[b]? =some (.cells #[.string ⟨k.name.toArray⟩, .string ⟨k.domain.toArray⟩, .string ⟨k.path.toArray⟩] ty fz))
  (h:dS tab w tmps ts):dS tab w tmps ((t, .bT k.enc 0)::ts):=by
 have hlt:=(Aa.1 hb).1;refine h.put (av:= .ptr b 0) h1 (fun E hE=>by simp[ae,hE b hlt]) ?_;have hg:(bK tab w).get b=some (.cells [.str k.name, .str k.domain, .str k.path] ty ((tab.siz.get ty).getD 1) false .ro):=by
  rw[qW];unfold iS;rw[hb];rfl
 refine .bT b 0 _ ty _ false .ro (fun j=>([.str k.name, .str k.domain, .str k.path]:List AV)[j]?.getD .aQ) hg (Af 3) (fun j v hj=>?_) (fun j v hj=>?_)
 all_goals
  have hj3:j<3:=(Ac.1 hj).1;match j,hj3 with
  |0,_|1,_|2,_=>cases hj;first|rfl|exact .str _
section
def mf:ay:=⟨[110],[100],[47]⟩
def nH:af:=⟨⟨0,1,1⟩,⟨0,0,0⟩,1,mf,⟨[],false,false,false,false,1099511627776,0,0⟩,[]⟩
def nI:af:=⟨⟨1,1,1⟩,⟨5,0,1⟩,1,mf,⟨[108,97,116,101],false,false,false,false,1099511627776,0,0⟩,[]⟩
def ql:List af:=[nH,nI]
section
variable [Inhabited aD]
theorem NH {b:Nat} {m:bh} {x:aa} (hS:db b m) (hI:ur m=[x]) (hx:x.ab.value=[108,97,116,101]) (hD:(uH m mf).length=2):wp (eK GV (fun _ _=>none)) 2000
  ⟨o5,41,0,[.code (rE 5 (Tryz.f13.body.getD .skip))],⟨[(1, .wp ⟨b,0,none⟩),(2, .bT mf.enc 0)],⟨0,[]⟩,[]⟩⟩ sx:=by
 (conv=>whnf)
 refine⟨some (b,m),?_⟩
 repeat ((conv=>whnf);first|refine⟨rfl,?_⟩|refine⟨trivial,?_⟩)
 refine⟨hS,?_⟩;have hI':ur (Mp.m (some (b,m)))=[x]:=hI;have hD':(uH (Mp.m ((some (b,m),mf):Mp×ay).1) ((some (b,m),mf):Mp×ay).2).length=2:=hD
 (conv=>whnf)
 refine au.2 ⟨fun _=>?_,fun h=>absurd h (by rw[hI'];simp)⟩
 (conv=>whnf)
 refine aJ.2 ⟨x,by rw[hI'];rfl,?_⟩
 (conv=>whnf)
 refine au.2 ⟨fun _=>?_,fun h=>absurd h (by rw[hx];simp)⟩
 (conv=>whnf)
 refine⟨((some (b,m),mf):Mp×ay),?_⟩
 repeat ((conv=>whnf);first|refine⟨rfl,?_⟩|refine⟨trivial,?_⟩)
 refine⟨hS,?_⟩
 (conv=>whnf)
 rw[hD'];rfl
end
theorem iG:Gp ql:=⟨by decide,by decide+kernel⟩
theorem LY:ur (kC ql)=[⟨mf,nI.ab⟩]:=by kernel_rfl
theorem Ng:(uH (kC ql) mf).length=2:=by kernel_rfl
theorem pO {w:World} {b o:Nat} {arr:Array Value} {ty:TypeId} {fz:Nat×Nat} (h:w.heap[b]? =some (.cells arr ty fz)):w.cell? ⟨b,o,none⟩=arr[o]? :=by simp[World.cell?,h]
theorem Hw:lJ kW:=⟨by decide,fun x hx=>(by cases hx),by decide,by decide⟩
theorem Hx:lJ (eL kW nH).1:=by
 letI:Inhabited aD:=⟨⟨True,#[]⟩⟩
 exact(vP (l:=ql) iG.2 1 (by decide)).ok (by decide)
theorem OX (w:World):Calls Tryz.prog 13 #[] w fun e w'=>e= .returned (.bool true)/\Below w.heap.size w w':=by
 refine yN Tryz.func13 rfl ?_;simp only[Tryz.ntmps13,A4,As,AE,Nat.reduceAdd,Nat.reduceSub,Du,Dt,DB,Dx,BJ,Bg];refine eE.next Tryz.func13 ?_;go_wp2;show eE _ _ _ _ _ _
 refine eE.next Tryz.func13 ?_;have hnew:=PH w;go_wp2_with (go_at_call 14;refine hnew.mono ?_;rintro e w1 ⟨b,bk,ba,bd,bs,bv,rfl,hO,hb1⟩)
 show eE _ _ _ _ _ _
 refine eE.next Tryz.func13 ?_;go_wp2;show eE _ _ _ _ _ _
 obtain⟨W,hW⟩:∃W,w1.alloc (.cells #[.string ⟨#[110]⟩, .string ⟨#[100]⟩, .string ⟨#[47]⟩] 24)=W:=⟨_,rfl⟩;rw[hW];have hbW:Below w1.heap.size w1 W:=by rw[<-hW];exact(Below.refl _ _).alloc (Af _) _
 have hbb:W.heap[w1.heap.size]? =some (.cells #[.string ⟨#[110]⟩, .string ⟨#[100]⟩, .string ⟨#[47]⟩] 24 (0,0)):=by rw[<-hW];exact World.alloc_heap_new _ _
 have d0:=pO (o:=0) hbb;have d1:=pO (o:=1) hbb;have d2:=pO (o:=2) hbb;have hOW:=hO.below hbW;have happ1:=Tryz.apply hOW cq.start (Ay hb1.size hbW.size) (e:=nH) (u:=(.agg #[.int .i64 0, .int .i64 1, .int .i64 1, .int .i64 0, .int .i64 0, .int .i64 0, .int .i64 1, .string ⟨#[110]⟩, .string ⟨#[100]⟩, .string ⟨#[47]⟩, .string ⟨#[]⟩, .bool false, .bool false, .bool false, .bool false, .int .i64 1099511627776, .int .i64 0, .int .i64 0, .slice none 0 0])) ⟨.slice none 0 0,rfl, .inl ⟨rfl,none,0,rfl⟩⟩ ⟨by decide,by decide⟩ (by decide) Hw;refine eE.next Tryz.func13 ?_;go_wp2_with (go_at_call 15;refine happ1.mono ?_;rintro e w2 ⟨rfl,hb2,hc2,G2,hO2,hg2⟩)
 show eE _ _ _ _ _ _
 have hbb2:=hc2 _ _ _ _ hbb;have d0:=pO (o:=0) hbb2;have d1:=pO (o:=1) hbb2;have d2:=pO (o:=2) hbb2;have hz2:w.heap.size<=w2.heap.size:=Ay (Ay hb1.size hbW.size) hb2.size;have happ2:=Tryz.apply hO2 hg2 hz2 (e:=nI) (u:=(.agg #[.int .i64 1, .int .i64 1, .int .i64 1, .int .i64 5, .int .i64 0, .int .i64 1, .int .i64 1, .string ⟨#[110]⟩, .string ⟨#[100]⟩, .string ⟨#[47]⟩, .string ⟨#[108,97,116,101]⟩, .bool false, .bool false, .bool false, .bool false, .int .i64 1099511627776, .int .i64 0, .int .i64 0, .slice none 0 0])) ⟨.slice none 0 0,rfl, .inl ⟨rfl,none,0,rfl⟩⟩ ⟨by decide,by decide⟩ (by decide) Hx;refine eE.next Tryz.func13 ?_;go_wp2_with (go_at_call 15;refine happ2.mono ?_;rintro e w3 ⟨rfl,hb3,hc3,G3,hO3,hg3⟩)
 show eE _ _ _ _ _ _
 have hbb3:=hc3 _ _ _ _ hbb2;have hS:=I9 (l:=ql) hO3 hg3 iG;letI:Inhabited aD:=oF w3
 refine eE.mono (Hq (n:=2000) (c:=rE 5 (Tryz.f13.body.getD .skip)) ch rfl (LF (Nh w3)) rfl (NH hS LY rfl Ng) ?_ (LZ w3)) ?_
 . exact .cons rfl (.wp _) (K7 rfl hbb3 .nil)
 . rintro e w' ⟨rfl,hb'⟩;have h1:=Ay hz2 hb3.size;exact⟨rfl,(((hb1.trans (hbW.mono hb1.size)).trans hb2).trans hb3).trans (hb'.mono h1)⟩
end
end Go.Proofs
