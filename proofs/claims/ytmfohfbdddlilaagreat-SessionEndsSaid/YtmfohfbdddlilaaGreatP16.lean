/- Part 16: an evaluator, proved sound, and its use at this seat; no condition. -/
import Derived.WalkKit
import Derived.LoopTactic
import Derived.Deep.RegionHeld3
import Derived.Test.YtmfohfbdddlilaaGreatP8
import Derived.Test.YtmfohfbdddlilaaGreatP14
import Derived.Test.YtmfohfbdddlilaaGreatP15
set_option linter.unusedSimpArgs false
set_option linter.unusedVariables false
set_option linter.unusedSectionVars false
set_option linter.deprecated false
set_option maxRecDepth 100000
set_option maxHeartbeats 40000000
namespace Go.Proofs
open Go Go.Am Go.RowKit Go.Sy Go.Gm
theorem OG {bk ba bd bv i j:Nat} {G:aT} {k:aC} {L:DL} {K:List (ag×(Value×aa))} {V:List ((Int×Int)×Int)} {N:Nat} (hal:aw G.alive k=none) (hj:N<=j) (hi:i<N) (h:dG bk ba bd bv ⟨K,bN G.alive k (j,L),G.dead,V⟩ i):dG bk ba bd bv G i:=by
 unfold dG at h⊢;rw[show(bN G.alive k (j,L)).map (fun x=>x.2.1)=G.alive.map (fun x=>x.2.1)++[j]from Ci hal]at h;simp only[Aj,Ba,BX,DT]at h⊢;rcases h with h|h|h|h|h|h
 . exact .inl h
 . exact .inr (.inl h)
 . exact .inr (.inr (.inl h))
 . exact .inr (.inr (.inr (.inl h)))
 . exact .inr (.inr (.inr (.inr h)))
 . omega
theorem OH {bk ba bd bv i j:Nat} {G:aT} {k:aC} {L L':DL} {K:List (ag×(Value×aa))} {V:List ((Int×Int)×Int)} (hn:(G.alive.map (·.1)).Nodup) (hal:aw G.alive k=some (j,L)) (h:dG bk ba bd bv ⟨K,bN G.alive k (j,L'),G.dead,V⟩ i):dG bk ba bd bv G i:=by
 unfold dG at h⊢;rw[show(bN G.alive k (j,L')).map (fun x=>x.2.1)=G.alive.map (fun x=>x.2.1)from sk hn hal rfl]at h;exact h
theorem Ld {G:aT} (hn:(G.alive.map (·.1)).Nodup) (d:ag) {j:Nat} (h:j∈(jn G d).alive.map (·.2.1)):j∈G.alive.map (·.2.1):=by
 unfold jn at h;simp only at h;split at h
 . split at h
   . unfold mz at h;split at h
     . exact h
     . rename_i x hx;split at h
       . obtain⟨y,hy,rfl⟩:=Ar.1 h;exact Ar.2 ⟨y,(AB.1 hy).1,rfl⟩
       . rw[show(bN G.alive _ (x.1,cW x.2 d)).map (fun x=>x.2.1)=G.alive.map (fun x=>x.2.1)from sk hn hx rfl]at h;exact h
   . exact h
 . exact h
theorem CD {G:aT} {l:List ag} {k:Nat} (h:k<l.length):jG G (l.take (k+1))=jn (jG G (l.take k)) l[k]:=by
 unfold jG;rw[Az h,EG];rfl
theorem SN {w:World} {n b bk ba bd bs bv:Nat} {G:aT} {m:ay} {e:aa} {u:Value} (h:cy w n b bk ba bd bs bv G) (hg:bT G m) (hn:n<=w.heap.size) (hu:gY w u e) (hse:jW e) (hover:e.over.length<=100000) (hseq:∀a i,0<=getM m.ctx a i/\getM m.ctx a i<=4294967296)
  (q1:fC e=true) (q2:dX m.ctx e.dot=false) (q3:getM m.ctx e.dot.dev e.dot.inc+1=e.dot.seq) (q4:¬2048<=m.kept.length):
  Calls Tryz.prog 15 #[.pointer (some ⟨b,0,none⟩),u] w fun e' w'=>e'= .returned (.tuple #[.bool true, .int .i64 0])/\eE (dG bk ba bd bv G) w w'/\ ∃G',cy w' n b bk ba bd bs bv G'/\bT G' (dN m e).1:=by
 obtain⟨v,hu,hd⟩:=hu;obtain⟨va,vn,vc,hve⟩:=hd.one;obtain⟨cs,hcs⟩:∃cs:Array Value,Hid ((cD e v).toArray=cs):=⟨_,rfl⟩;have hu':u= .agg cs:=by rw[hu,<-(show(cD e v).toArray=cs from hcs)];rfl
 have hev0:gY w (.agg cs) e:=⟨v,by rw[<-hu',hu],hd⟩;clear hu;subst hu';obtain⟨SZ,mm,hSZ,hsz,hm⟩:=rT;obtain⟨W,hW⟩:∃W,w.alloc (.cells cs 42)=W:=⟨_,rfl⟩;have hb:Below w.heap.size w W:=by rw[<-hW];exact(Below.refl w.heap.size w).alloc (Ah _) _
 have hs:W.heap.size=w.heap.size+1:=by rw[<-hW];simp
 have hr:W.rangeAt w.heap.size 0 (cD e v):=by rw[<-hW,<-(show(cD e v).toArray=cs from hcs)];exact rH w e v
 have h0:=h.below hb;have hright:=JO (hev0.cells (dU hb)) hse;obtain⟨k0,k1,k2,k6,k18,kl⟩:=eN hr hcs hm;rw[q1]at hright;letI:Inhabited aF:=⟨⟨True,#[]⟩⟩
 have hdot:eL e.dot=true:=uv q1;have hhas:decide (e.dot.seq<=mZ G.vec e.dot.dev e.dot.inc)=false:=by
  have hh:decide (e.dot.seq<=mZ G.vec e.dot.dev e.dot.inc)=dX m.ctx e.dot:=by
   unfold dX;rw[hdot,Bn,fg,hg.vec]
  rw[hh,q2]
 have hwr:IntKind.i64.wrap (getM m.ctx e.dot.dev e.dot.inc+1)=getM m.ctx e.dot.dev e.dot.inc+1:=IntWalk.i64_in _ (by have:=hseq e.dot.dev e.dot.inc;omega);have hne:(e.dot.seq !=getM m.ctx e.dot.dev e.dot.inc+1)=false:=by rw[q3];simp
 have hl:G.kept.length<=100000:=by rw[hg.len];omega
 have hroom:decide (1<=2048 - (G.kept.length:Int))=true:=BD (by rw[hg.len];omega);have hprev:(aw G.vec (e.dot.dev,e.dot.inc)).getD 0=e.dot.seq - 1:=by
  have:=hg.vec e.dot.dev e.dot.inc;unfold mZ at this;rw[this];omega
 have hfin:=fun(v:Value) (nb:Nat)=>(hg.apply v nb q1 q2 q3 q4).1
 have hfinal:Hid (∀(v:Value) (nb:Nat),bT (oZ G e v nb) (dN m e).1):=hfin;clear hfin;have hgv:=hg.vec;clear q1 q2 q3 q4 hg;go_enter Tryz.func15,Tryz.ntmps15
 go_wp2_with (go_at_call 65;refine hright.mono ?_;rintro e' w1 ⟨rfl,hb1⟩;have hbf1:=hb.trans (hb1.mono (by omega));have h1:=h0.below hb1;have r1:=fA (dU hb1) hr;obtain⟨a0,a1,a2,a6,a18,al⟩:=eN r1 hcs hm;have a3:=h1.c3;have h1d:=h1.below (Below.refl w1.heap.size w1).drew;have hv1:=wu h1d.cv h1d.mv e.dot.dev e.dot.inc e.dot.seq hdot;rw[hhas]at hv1;have hev1:=(hev0.cells (dU hb)).cells (dU hb1);clear k0 k1 k2 k6 k18 kl h1d)
 go_region_held3 (fun w'=>w'.cell? ⟨b,3,none⟩=some (.pointer (some ⟨bs,0,none⟩))/\w'.cell? ⟨w.heap.size,0,none⟩=some (.int .i64 e.dot.dev)/\w'.cell? ⟨w.heap.size,1,none⟩=some (.int .i64 e.dot.inc)/\w'.cell? ⟨w.heap.size,2,none⟩=some (.int .i64 e.dot.seq)) (simp[*]) (first|(go_at_call 66;refine hv1.mono ?_;rintro e' w2 ⟨rfl,hb2⟩;have hbf2:=hbf1.drew.trans (hb2.mono (by have:=hbf1.size;show _<=w1.heap.size;omega));have h2:=(h1.below (Below.refl w1.heap.size w1).drew).below hb2;have r2:=fA (dU hb2) (fA (dU (Below.refl w1.heap.size w1).drew) r1);obtain⟨b0,b1,b2,b6,b18,bl⟩:=eN r2 hcs hm;have b3:=h2.c3;have h2d:=h2.below (Below.refl w2.heap.size w2).drew;have hv2:=kz h2d.cv h2d.mv e.dot.dev e.dot.inc;rw[show(aw G.vec (e.dot.dev,e.dot.inc)).getD 0=getM m.ctx e.dot.dev e.dot.inc from hgv _ _]at hv2;have hev2:gY w2 (.agg cs) e:=hev1.cells (fun bb arr t fz hx=>dU hb2 bb arr t fz hx);clear a0 a1 a2 a6 a18 al a3 hv1 h2d))
 all_goals go_wp2_with fail
 all_goals go_region_held3 (fun w'=>w'.cell? ⟨b,3,none⟩=some (.pointer (some ⟨bs,0,none⟩))/\w'.cell? ⟨w.heap.size,0,none⟩=some (.int .i64 e.dot.dev)/\w'.cell? ⟨w.heap.size,1,none⟩=some (.int .i64 e.dot.inc)/\w'.cell? ⟨w.heap.size,2,none⟩=some (.int .i64 e.dot.seq)) (simp[*]) (first|(go_at_call 67;refine hv2.mono ?_;rintro e' w3 ⟨rfl,hb3⟩;have hbf3:=hbf2.drew.trans (hb3.mono (by have:=hbf2.size;show _<=w2.heap.size;omega));have h3:=(h2.below (Below.refl w2.heap.size w2).drew).below hb3;have hv3:=Tryz.room h3 hl;rw[hroom]at hv3;have r3:=fA (dU hb3) (fA (dU (Below.refl w2.heap.size w2).drew) r2);obtain⟨c0,c1,c2,c6,c18,cl⟩:=eN r3 hcs hm;have c3:=h3.c3;have hev3:gY w3 (.agg cs) e:=hev2.cells (fun bb arr t fz hx=>dU hb3 bb arr t fz hx);clear b0 b1 b2 b6 b18 bl b3 hv2))
 all_goals go_wp2_with (go_at_call 68;refine hv3.mono ?_;rintro e' w4 ⟨rfl,rfl⟩;have h3d:=h3.below (Below.refl w4.heap.size w4).drew;have hv4:=R6 h3d.cv h3d.mv e.dot.dev e.dot.inc e.dot.seq (fun hh=>tO h3d.cv (by rw[hh];exact au.isMap h3d.mv)) hdot hprev;clear hv3)
 all_goals go_region_held3 (fun w'=>w'.cell? ⟨b,3,none⟩=some (.pointer (some ⟨bs,0,none⟩))/\w'.cell? ⟨w.heap.size,0,none⟩=some (.int .i64 e.dot.dev)/\w'.cell? ⟨w.heap.size,1,none⟩=some (.int .i64 e.dot.inc)/\w'.cell? ⟨w.heap.size,2,none⟩=some (.int .i64 e.dot.seq)) (simp[*]) (first|(go_at_call 69;refine hv4.mono ?_;rintro e' w5 ⟨rfl,hb5,hmv5⟩;have h5:=h3d.oo hb5 hmv5;have hbut5:eE (dG bk ba bd bv G) w w5:=(kA hbf3.drew).trans (hb5.mono fun k _ hk=>by(rw[hk];unfold dG;simp));have hc5:iG w4.drew w5:=hb5.cells (fun k hk=>by(rw[hk];exact au.isMap h3d.mv));have r5:=fA hc5 (fA (dU (Below.refl w4.heap.size w4).drew) r3);obtain⟨d0,d1,d2,d6,d18,dl⟩:=eN r5 hcs hm;have d3:=h5.c3;have e0:=h5.c0;obtain⟨-, -, -, -, -,dl'⟩:=eN (fA (dU (Below.refl w5.heap.size w5).drew) r5) hcs hm;have hev5:gY w5.drew (.agg cs) e:=hev3.cells (fun bb arr t fz hx=>hc5 bb arr t fz hx);have hv5:=Si hev5 hover;clear c0 c1 c2 c6 c18 cl c3 hv4))
 all_goals go_wp2_with fail
 all_goals go_region_held3 (fun w'=>w'.cell? ⟨b,0,none⟩=some (.map (some bk))/\w'.cell? ⟨w.heap.size,0,none⟩=some (.int .i64 e.dot.dev)/\w'.cell? ⟨w.heap.size,1,none⟩=some (.int .i64 e.dot.inc)/\w'.cell? ⟨w.heap.size,2,none⟩=some (.int .i64 e.dot.seq)/\(loadCellsFrom ⟨w.heap.size,0,none⟩ 0 mm #[]).run Tryz.prog w'= .ok cs w') (simp[*]) (first|(go_at_call 70;refine hv5.mono ?_;rintro e' w6 ⟨u',rfl,hev6,hb6⟩;have h6:=(h5.below (Below.refl w5.heap.size w5).drew).below hb6;have r6:=fA (dU hb6) (fA (dU (Below.refl w5.heap.size w5).drew) r5);obtain⟨f0,f1,f2,f6,f18,fl⟩:=eN r6 hcs hm;have f3:=h6.c0;obtain⟨es,clk,hup,hmu⟩:=h6.gF.update gN Tryz.underlying99 e.dot (u',e);rw[show bq e.dot= .agg #[.int .i64 e.dot.dev, .int .i64 e.dot.inc, .int .i64 e.dot.seq]from rfl,show o7 (u',e)=u' from rfl]at hup;have h7:=h6.nz (x:=(u',e)) hev6 hmu;have hbut6:eE (dG bk ba bd bv G) w w6:=hbut5.drew.trans (kA hb6);have hbut7:eE (dG bk ba bd bv G) w (World.aM w6 bk (.map es clk)):=hbut6.trans (uT (au.isMap h6.gF) (by(unfold dG;simp)));have r7:(World.aM w6 bk (.map es clk)).rangeAt w.heap.size 0 (cD e v):=fA (C8 (au.isMap h6.gF)) r6;obtain⟨W7,hW7⟩:∃W7,World.aM w6 bk (.map es clk)=W7:=⟨_,rfl⟩;rw[hW7]at hup h7 hbut7 r7;obtain⟨g0,g1,g2,g6,g18,gl⟩:=eN r7 hcs hm;have g3:=h7.c0;clear d0 d1 d2 d6 d18 dl d3 e0 hv5 hmu))
 rename_i Q0 K0 hK0 hS0;clear hS0;refine hK0 _ _ ?_;apply wp_seq_k;intro K1 hK1;go_cut []from 6 (fun wc=>eE (dG bk ba bd bv G) w wc/\(∃nb,cy wc n b bk ba bd bs bv (gK (fV G e u') e nb)/\ ∀i,i<w.heap.size->dG bk ba bd bv (gK (fV G e u') e nb) i->dG bk ba bd bv G i)/\wc.rangeAt w.heap.size 0 (cD e v))
 case rest=>
  obtain⟨hbutc,⟨nb,hc,hmc⟩,rc⟩:=hcut;have hmapsW:=h.maps;obtain⟨p0,p1,p2,p6,p18,pl⟩:=eN rc hcs hm;rw[hve]at p18;have hlenv:vn=e.over.length:=by
   rw[hve]at hd;rcases hd with⟨h0,a,c,hh⟩|⟨_,_,_,_,_,_,hh,_⟩
   . cases hh;rw[h0];rfl
   . cases hh;rfl
  subst hlenv;clear h h0 hr hright hev0;go_wp2;go_loopw [72] (fun i wr=>∃k:Nat,k<=e.over.length/\i= .int .i64 k/\eE (dG bk ba bd bv G) w wr/\cy wr n b bk ba bd bs bv (jG (gK (fV G e u') e nb) (e.over.take k))/\ ∀i,i<w.heap.size->dG bk ba bd bv (jG (gK (fV G e u') e nb) (e.over.take k)) i->dG bk ba bd bv G i)
   (fun i _=>e.over.length - (intOf i).toNat)
  case atStart=>exact⟨0,Av _,rfl,hbutc,by rw[En];exact hc,by rw[En];exact hmc⟩
  case round=>
   obtain⟨k,hk,rfl,hbr,hor,hmr⟩:=hrel;by_cases hlt:k<e.over.length
   . have hstay:iG w wr:=hbr.cells hmapsW;rw[hve]at hd;rcases hd with⟨h0,_⟩|⟨ob,off,cap,arr,ty,fz,hh,hob,hcap,hlen,hcells⟩
     . rw[h0]at hlt;exact absurd hlt (A9 _)
     . simp only[Value.slice.injEq]at hh;obtain⟨rfl, -,rfl⟩:=hh;obtain⟨x0,x1,x2⟩:=hcells k hlt;have hobr:=hstay _ _ _ _ hob;have cell:∀{j:Nat} {u:Value},arr[j]? =some u->wr.cell? ⟨ob,j,none⟩=some u:=fun hx=>by
        unfold World.cell?;simp only[hobr,Bi,Ak,Aw];exact hx
       have c0:=cell x0;have c1:=cell x1;have c2:=cell x2;have hba:Below wr.heap.size wr (wr.alloc (.cells #[.int .i64 e.over[k].dev, .int .i64 e.over[k].inc, .int .i64 e.over[k].seq] 35)):=(Below.refl wr.heap.size wr).alloc (Ah _) _;have hkill:=Tryz.kill (hor.below hba) e.over[k];have hnda:=hor.ma.nd;have hwrs:=hbr.size;rw[show bq e.over[k]= .agg #[.int .i64 e.over[k].dev, .int .i64 e.over[k].inc, .int .i64 e.over[k].seq]from rfl]at hkill;clear hcells x0 x1 x2 cell hob hobr hstay hlen rc hc hbutc p0 p1 p2 p6 pl p18;go_wp2_with (go_at_call 73;refine hkill.mono ?_;rintro e' w9 ⟨rfl,hb9,h9⟩;have R1:eE (dG bk ba bd bv G) w w9:=(hbr.more (kA (S:=fun _=>False) hba) (fun _ _ h=>h.elim)).more hb9 (fun i hi hh=>hmr i hi hh);rw[<-CD hlt]at h9)
       go_roundw
       case rel=>
        refine⟨k+1,hlt,by go_num,R1,h9,fun i hi hh=>hmr i hi ?_⟩;rw[CD hlt]at hh;unfold dG at hh⊢;simp only[Aj]at hh⊢;rcases hh with hh|hh|hh|hh|hh
        . exact .inl hh
        . exact .inr (.inl hh)
        . exact .inr (.inr (.inl hh))
        . exact .inr (.inr (.inr (.inl hh)))
        . exact .inr (.inr (.inr (.inr (Ld hnda _ hh))))
       case measure=>simp[intOf];omega
   . have hkl:k=e.over.length:=by omega
     subst hkl;rw[Bg]at hor;go_wp2;refine bodyPost_ret (results_tmp2 rfl _ _ _) rfl ?_;exact⟨rfl,hbr,_,hor,(show ∀(v:Value) (nb:Nat),bT (oZ G e v nb) (dN m e).1 from hfinal) u' nb⟩
 case first=>
  have h7':cy W7 n b bk ba bd bs bv (fV G e u'):=h7;have hencv:fZ e v= .agg cs:=by rw[<-(show(cD e v).toArray=cs from hcs)];rfl
  by_cases kd:e.kind=1
  case neg=>
   have hL:gK (fV G e u') e 0=fV G e u':=by unfold gK;rw[if_neg (fun hh=>kd hh.1)]
   go_wp2;go_meet
   case rel=>exact⟨hbut7,⟨0,by rw[hL];exact⟨h7',fun _ _ hh=>hh⟩⟩,r7⟩
  case pos=>
   rw[kd]at g6;have hdead:=Tryz.dead h7' e.dot;rw[show bq e.dot= .agg #[.int .i64 e.dot.dev, .int .i64 e.dot.inc, .int .i64 e.dot.seq]from rfl,show(fV G e u').dead=G.dead from rfl]at hdead
   cases hdd:aw G.dead e.dot with
   | some z=>
     rw[hdd]at hdead;have hL:gK (fV G e u') e 0=fV G e u':=by
       unfold gK;rw[if_neg (fun hh=>by have:=hh.2;rw[show(fV G e u').dead=G.dead from rfl,hdd]at this;cases this)]
     go_wp2_with (go_at_call 71;refine hdead.mono ?_;rintro e' w8 ⟨rfl,hb8⟩;have h8:=h7'.below hb8;have r8:=fA (dU hb8) r7;have hbut8:=hbut7.more (kA (S:=fun _=>False) hb8) (fun _ _ h=>h.elim))
     go_meet
     case rel=>exact⟨hbut8,⟨0,by rw[hL];exact⟨h8,fun _ _ hh=>hh⟩⟩,r8⟩
   | none=>
     rw[hdd]at hdead
     cases hal:aw G.alive e.key with
     | none=>
       have hL:∀nb,gK (fV G e u') e nb={fV G e u' with alive:=bN G.alive e.key (nb,[(e.dot,1)])}:=fun nb=>by
        unfold gK nS;rw[if_pos ⟨kd,hdd⟩,show(fV G e u').alive=G.alive from rfl,hal]
       go_wp2_with (first
        |(go_at_call 71;refine hdead.mono ?_;rintro e' w8 ⟨rfl,hb8⟩;have h8:=h7'.below hb8;have r8:=fA (dU hb8) r7;have hbut8:=hbut7.more (kA (S:=fun _=>False) hb8) (fun _ _ h=>h.elim);obtain⟨j0,j1,j2,j6,j18,jl⟩:=eN r8 hcs hm;have hlive:=SQ h8 (by have:=hbut8.size;omega) e v hal;rw[hencv]at hlive)
        |(go_at_call 72;refine hlive.mono ?_;rintro e' w9 ⟨rfl,hb9,nb,hnb,h9⟩;have r9:=fA (hb9.cells h8.maps) r8;have hbut9:eE (dG bk ba bd bv G) w w9:=hbut8.trans hb9))
       go_meet
       case rel=>exact⟨hbut9,⟨nb,by rw[hL];exact⟨h9,fun i hi hh=>OG hal (by have:=hbut8.size;omega) hi hh⟩⟩,r9⟩
     | some x=>
       obtain⟨jb,L⟩:=x;have hL:gK (fV G e u') e 0={fV G e u' with alive:=bN G.alive e.key (jb,bN L e.dot 1)}:=by
        unfold gK nS;rw[if_pos ⟨kd,hdd⟩,show(fV G e u').alive=G.alive from rfl,hal]
       go_wp2_with (first
        |(go_at_call 71;refine hdead.mono ?_;rintro e' w8 ⟨rfl,hb8⟩;have h8:=h7'.below hb8;have r8:=fA (dU hb8) r7;have hbut8:=hbut7.more (kA (S:=fun _=>False) hb8) (fun _ _ h=>h.elim);obtain⟨j0,j1,j2,j6,j18,jl⟩:=eN r8 hcs hm;have hlive:=SR h8 e v hal;rw[hencv]at hlive)
        |(go_at_call 72;refine hlive.mono ?_;rintro e' w9 ⟨rfl,hb9,h9⟩;have r9:=fA (hb9.cells h8.maps) r8;have hbut9:eE (dG bk ba bd bv G) w w9:=hbut8.trans hb9))
       go_meet
       case rel=>exact⟨hbut9,⟨0,by rw[hL];exact⟨h9,fun i hi hh=>OH h.ma.nd hal hh⟩⟩,r9⟩
end Go.Proofs
namespace Go.Proofs
open Go Go.Am Go.RowKit Go.Sy Go.Gm Go.Maps Go.Sort Go.Shelf
section
inductive Flat:SV->Prop
 |bool (b:Bool):Flat (.bool b)
 |int (k:IntKind) (n:Int):Flat (.int k n)
 |str (s:List UInt8):Flat (.str s)
 |wp (a:Addr):Flat (.wp a)
 |aJ {X:Type} {L:List X} {enc:X->List SV} (h:∀(i:Nat) x (j:Nat) v,L[i]? =some x->(enc x)[j]? =some v->Flat v):Flat (.aJ X L enc)
theorem rN (l:List ag):Flat (cz l):= .aJ fun i x j v _ hv=>by
 have hj:j<3:=(Ad.1 hv).1;match j,hj with
 |0,_|1,_|2,_=>cases hv;exact .int _ _
theorem uJ (l:List aa):Flat (cI l):= .aJ fun i x j v _ hv=>by
 have hj:j<19:=(Ad.1 hv).1;match j,hj with
 |0,_|1,_|2,_|3,_|4,_|5,_|6,_|15,_|16,_|17,_=>cases hv;exact .int _ _
 |7,_|8,_|9,_|10,_=>cases hv;exact .str _
 |11,_|12,_|13,_|14,_=>cases hv;exact .bool _
 |18,_=>cases hv;exact rN _
section
variable [Inhabited aF] {tab:aZ} {w:World} {p:Nat->Prop} {g:Bool}
theorem Lz {n:Nat} (a:Option Addr) (c:Nat):cO n (.slice a 0 c)= .nils\/cO n (.slice a 0 c)= .raw (.slice a 0 c):=by
 unfold cO;split<;>simp_all
theorem sK {s:SV} (hf:Flat s):∀{v:Value},Rd w p g s v->aI (bS tab w).get s (cO w.heap.size v):=by
 induction hf with
 |bool b=>intro v h;cases h;exact .bool b
 |int k n=>intro v h;cases h;exact .int k n
 |str s=>intro v h;cases h;exact .str s
 |wp a=>intro v h;cases h;exact .wp a
 | @aJ X L enc hfl ih=>
  intro v h
  cases h with
  |gE h0=>exact .bL h0 (.inl rfl)
  |bL h h0 a c=>
   rcases Lz (n:=w.heap.size) a c with e|e
   . rw[e];exact .bL h0 (.inl rfl)
   . rw[e];exact .bL h0 (.inr (.inr ⟨_,_,rfl⟩))
  |aJ b off cap arr e fz sz u hp hb hs hl hn hc h1 h2=>
   exact ym hb hs (fun x hx=>by obtain⟨i,hi,rfl⟩:=BB hx;exact hn i _ (Ag hi)) hl rfl hc (fun i x j v hx hv=>⟨u i j,h1 i x j v hx hv,ih i x j v hx hv (h2 i x j v hx hv)⟩)
theorem Nk {s:SV} (hf:Flat s) {v:Value} (h:Rd w p g s v) (n:Nat):eH n v=cO n v:=by
 cases hf<;>cases h<;>rfl
theorem H5 {s:SV} (hf:Flat s) {v:Value} (h:Rd w p g s v):aI (bS tab w).get s (eH w.heap.size v):=by
 rw[Nk hf h];exact sK hf h
theorem PK {cs:List SV} (hf:∀c∈cs,Flat c) {v:Value} (h:Rd w p g (.agg cs) v):aI (bS tab w).get (.agg cs) (eH w.heap.size v):=by
 cases h with
 | @agg cs vs h1 h2=>
  show aI _ (.agg cs) (.agg (vs.toList.map (cO w.heap.size)))
  refine .agg (by simpa using h1) fun i c v hc hv=>?_
  rw[Au]at hv
  cases hi:vs.toList[i]? with
  |none=>rw[hi]at hv;cases hv
  |some x=>
   rw[hi]at hv
   cases hv;exact sK (hf c (BP hc)) (h2 i c x hc (by rw[<-Bd];exact hi))
theorem QR {s:SV} {v:Value} (h:aI (bS tab w).get s (eH w.heap.size v)):Rd w (fun _=>True) true s v:=by
 have:=uu (oR tab w (E:=⟨fun i=>i,fun _=>0⟩) (fun _ _=>rfl)) (fun _ _ h=>h) h;rwa [xC (fun _ _=>rfl)]at this
end
def fa (w:World) (l:List aa) (v:Value):Prop:=(l=[]/\ ∃a c,v= .slice a 0 c)\/ ∃b off cap arr e fz,v= .slice (some ⟨b,off,none⟩) l.length cap/\w.heap[b]? =some (.cells arr e fz)/\l.length<=cap/\off+l.length*19<=arr.size/\
 ∀i (h:i<l.length),∃u,(∀j,j<19->arr[off+i*19+j]? =(cD l[i] u)[j]?)/\bY w l[i].over u
theorem fa.cells {w w':World} (hc:iG w w') {l:List aa} {v:Value} (h:fa w l v):fa w' l v:=by
 rcases h with h|⟨b,off,cap,arr,e,fz,h1,h2,h3,h5,h4⟩
 . exact .inl h
 . exact .inr ⟨b,off,cap,arr,e,fz,h1,hc _ _ _ _ h2,h3,h5,fun i hi=>by obtain⟨u,k1,k2⟩:=h4 i hi;exact⟨u,k1,k2.cells hc⟩⟩
theorem fa.one {w:World} {l:List aa} {v:Value} (h:fa w l v):∃a c,v= .slice a l.length c:=by
 rcases h with⟨rfl,a,c,rfl⟩|⟨b,off,cap,arr,e,fz,rfl,_⟩<;>exact⟨_,_,rfl⟩
theorem Iw [Inhabited aF] {w:World} {p:Nat->Prop} {g:Bool} {l:List aa} {v:Value} (h:Rd w p g (cI l) v):fa w l v:=by
 unfold cI at h
 cases h with
 |gE h0=>exact .inl ⟨AQ.1 h0,_,_,rfl⟩
 |bL h h0 a c=>exact .inl ⟨AQ.1 h0,_,_,rfl⟩
 |aJ b off cap arr e fz sz u hp hb hs hl hn hc h1 h2=>
  by_cases h0:l=[]
  . subst h0;exact .inl ⟨rfl,_,_,rfl⟩
  . have hsz:sz=19:=by
     obtain⟨x,l',rfl⟩:=D8 h0;exact(hn 0 x rfl).symm
    subst hsz;refine .inr ⟨b,off,cap,arr,e,fz,rfl,hb,hc,hl,fun i hi=>?_⟩;have hx:l[i]? =some l[i]:=Ag hi;have key:∀(j:Nat) s,(aa.enc l[i])[j]? =some s->arr[off+i*19+j]? =some (u i j)/\Rd w p g s (u i j):=fun j s hs=>⟨h1 i _ j s hx hs,h2 i _ j s hx hs⟩
    refine⟨u i 18,fun j hj=>?_,sq (key 18 _ rfl).2⟩;match j,hj with
    |0,_|1,_|2,_|3,_|4,_|5,_|6,_|15,_|16,_|17,_=>rw[(key _ _ rfl).1,ij (key _ _ rfl).2];rfl
    |7,_|8,_|9,_|10,_=>rw[(key _ _ rfl).1,mY (key _ _ rfl).2];rfl
    |11,_|12,_|13,_|14,_=>rw[(key _ _ rfl).1,oQ (key _ _ rfl).2];rfl
    |18,_=>rw[(key _ _ rfl).1];rfl
    |_+19,h=>exact absurd h (by omega)
theorem vE [Inhabited aF] {w:World} {l:List aa} {v:Value} (h:fa w l v):Rd w (fun _=>True) true (cI l) v:=by
 unfold cI;rcases h with⟨rfl,a,c,rfl⟩|⟨b,off,cap,arr,e,fz,rfl,hb,hc,hl,hi⟩
 . exact .bL rfl rfl a c
 . refine .aJ b off cap arr e fz 19 (fun i j=>(arr[off+i*19+j]?).getD (.bool false)) trivial hb (by decide) hl (fun _ _ _=>rfl) hc (fun i x j v hx hv=>?_) (fun i x j v hx hv=>?_)
   all_goals
     have hil:i<l.length:=(Ad.1 hx).1;have hxe:l[i]=x:=(Ad.1 hx).2;obtain⟨u,hcl,hd⟩:=hi i hil;rw[hxe]at hcl hd;have hj:j<19:=(Ad.1 hv).1;have hcl:=hcl j hj
   . rw[hcl,Ag (show j<(cD x u).length from hj)];rfl
   . show Rd w _ true v ((arr[off+i*19+j]?).getD _)
     rw[hcl];match j,hj with
     |0,_|1,_|2,_|3,_|4,_|5,_|6,_|15,_|16,_|17,_=>cases hv;exact .int _ _
     |7,_|8,_|9,_|10,_=>cases hv;exact .str _
     |11,_|12,_|13,_|14,_=>cases hv;exact .bool _
     |18,_=>cases hv;exact sB hd
theorem S3 {w:World} {b off:Nat} {arr:Array Value} {e:TypeId} {fz:Nat×Nat} {x:aa} {u:Value} {i:Nat} (hb:w.heap[b]? =some (.cells arr e fz)) (hc:∀j,j<19->arr[off+i*19+j]? =(cD x u)[j]?):
  (loadCellsFrom ⟨b,off+i*19,none⟩ 0 19 #[]).run Tryz.prog w= .ok (cD x u).toArray w:=by
 have hl:(loadCells ⟨b,off+i*19,none⟩ (cD x u).length).run Tryz.prog w= .ok (cD x u).toArray w:=
  run_loadCells_list (P:=Tryz.prog) w ⟨b,off+i*19,none⟩ (cD x u) (fun j v hv=>by
   have hj:j<19:=(Ad.1 hv).1;rw[Addr.add_mid];unfold World.cell?
   simp only[hb,Bi,Ak,Aw];rw[hc j hj];exact hv)
 exact hl
theorem cy.heap {w w':World} {n b bk ba bd bs bv:Nat} {G:aT} (h:cy w n b bk ba bd bs bv G) (hs:∀i,i<w.heap.size->w'.heap[i]? =w.heap[i]?):cy w' n b bk ba bd bs bv G where
 c0:=dT h.c0 (hs _ (gU h.c0))
 c1:=dT h.c1 (hs _ (gU h.c1))
 c2:=dT h.c2 (hs _ (gU h.c2))
 c3:=dT h.c3 (hs _ (gU h.c3))
 cv:=dT h.cv (hs _ (gU h.cv))
 gF:=h.gF.same (hs _ h.gF.lt)
 ma:=h.ma.same (hs _ h.ma.lt)
 md:=h.md.same (hs _ h.md.lt)
 mv:=h.mv.same (hs _ h.mv.lt)
 mi:=fun x hx=>(h.mi x hx).same (hs _ (h.mi x hx).lt)
 nd:=h.nd
 low:=h.low
 ev:=fun x hx=>(h.ev x hx).cells fun c arr e fz hc=>by rw[hs _ (Ac.1 hc).1];exact hc
abbrev jZ (w:World):Inhabited aF:=⟨⟨False,w.heap⟩⟩
theorem yj (w:World): @cV (jZ w) w:=by intro b _;rfl
theorem vg (w:World):¬(@default aF (jZ w)).dr:=fun h=>h
theorem F1 {w:World} {n b bk ba bd bs bv:Nat} {G:aT} {m:ay} (h:cy w n b bk ba bd bs bv G) (g:bT G m) (ok:fT m) (hov:∀e∈m.kept,e.over.length<=100000): @bP (jZ w) b m:=
 letI:Inhabited aF:=jZ w
 ⟨ok,hov,fun w' hw=>⟨n,bk,ba,bd,bs,bv,G,h.heap fun i hi=>hw i hi,g⟩⟩
theorem Tryz.apply {w:World} {n b bk ba bd bs bv:Nat} {G:aT} {m:ay} {e:aa} {u:Value} (h:cy w n b bk ba bd bs bv G) (hg:bT G m) (hn:n<=w.heap.size) (hu:gY w u e) (hse:jW e) (hover:e.over.length<=100000) (ok:fT m):
  Calls Tryz.prog 15 #[.pointer (some ⟨b,0,none⟩),u] w fun e' w'=>e'= .returned (.tuple #[.bool (dN m e).2.1, .int .i64 (dN m e).2.2])/\Below n w w'/\iG w w'/\ ∃G',cy w' n b bk ba bd bs bv G'/\bT G' (dN m e).1:=by
 letI:Inhabited aF:=⟨⟨True,#[]⟩⟩
 have hseq:=CC ok.seq;have hl:G.kept.length<=100000:=by rw[hg.len];have:=ok.kept;omega
 cases hA:(dN m e).2.1 with
 |false=>
  refine(SY h hg hu hse hl hseq hA).mono ?_;rintro e' w' ⟨rfl,he,hb⟩;exact⟨rfl,hb.mono hn,dU hb,G,h.below hb,by rw[he];exact hg⟩
 |true=>
  have hq:fC e=true/\dX m.ctx e.dot=false/\getM m.ctx e.dot.dev e.dot.inc+1=e.dot.seq/\ ¬2048<=m.kept.length/\(dN m e).2.2=0:=by
    unfold dN at hA⊢;split at hA
    . cases hA
    split at hA
    . cases hA
    split at hA
    . cases hA
    split at hA
    . cases hA
    rename_i q1 q2 q3 q4;rw[if_neg q1,if_neg q2,if_neg q3,if_neg q4];exact⟨by simpa using q1,by simpa using q2,by simpa using q3,q4,rfl⟩
  obtain⟨q1,q2,q3,q4,q5⟩:=hq;rw[q5];refine(SN h hg hn hu hse hover hseq q1 q2 q3 q4).mono ?_;rintro e' w' ⟨rfl,hb,G',h1,h2⟩;have hmaps:=h.maps;refine⟨rfl,⟨hb.os,hb.tape,hb.output,hb.size,fun k hk=>hb.block k (by omega) fun hm=>?_⟩,fun c arr ty fz hc=>?_,G',h1,h2⟩
  . have:=h.low k (by unfold dG at hm;simp only[Aj]at hm⊢;exact .inr (.inr hm));omega
  . rw[hb.block c (Ac.1 hc).1 fun hm=>?_]
    . exact hc
    . obtain⟨es,clk,he⟩:=hmaps c hm;rw[hc]at he;cases he
end
section
variable [Inhabited aF]
end
section
section
variable [Inhabited aF]
theorem LY (m:ay):(eX m).length<=m.kept.length:=by
 have h1:=uV m (bM m) [];have h2:(bM m).length<=m.kept.length:=A7 _ _;unfold eX ct;simp only[Bb,Ay]at h1;omega
theorem yf (m:ay):(eU m).length<=m.kept.length:=by unfold eU;rw[A6];exact LY m
end
end
theorem SP {l:List aa} {v:Value} {w:World} (h:fa w l v):Calls Tryz.prog 12 #[v, .int .i64 30] w fun e w'=>e= .returned (.bool (bG (Int.ofNat l.length) 30&&l.all iw))/\Below w.heap.size w w':=
 sT (C:=fun _=>xz) (fun I=> @CY I) (hfn:=rfl) (hb:=rfl) (args:=[v, .int .i64 30]) (fun I=>⟨(l,30),(by show(30:Int)<=1000000;omega),PL.cons (H5 (uJ l) (vE h)) (PL.cons (.int _ _) PL.nil),rfl⟩)
theorem OC [Inhabited aF] {l:List aa} (h:(bG (Int.ofNat l.length) 30&&l.all iw)=true):l.length<=30/\qF l:=by
 rw[Ab,fg,Ae,AE]at h;have h1:(l.length:Int)<=30:=h.1;exact⟨by omega,by omega,h.2⟩
theorem Mb [Inhabited aF] {l:List aa} {i:Nat} (h:i<l.length):ey (l.take (i+1))=(dN (ey (l.take i)) l[i]).1:=nP (fun m e=>(dN m e).1) ly h
theorem PR [Inhabited aF] {m:ay} {e x:aa} (h:x∈(dN m e).1.kept):x∈m.kept\/x=e:=by
 unfold dN at h;split at h
 . exact .inl h
 split at h
 . exact .inl h
 split at h
 . exact .inl h
 split at h
 . exact .inl h
 unfold eQ at h;rcases Ba.1 h with h|h
 . exact .inl (Di h)
 . rcases Aj.1 h with h|h
   . exact .inr h
   . exact .inl (DU h)
theorem Hq [Inhabited aF] (l:List aa) {x:aa} (h:x∈(ey l).kept):x∈l:=by
 have key:∀(l:List aa) (m:ay),x∈(l.foldl (fun m e=>(dN m e).1) m).kept->x∈m.kept\/x∈l:=by
   intro l;induction l with
   |nil=>intro m h;exact .inl h
   |cons e l ih=>
    intro m h;rcases ih _ h with h|h
    . rcases PR h with h|rfl
      . exact .inl h
      . exact .inr Ao
    . exact .inr (An _ h)
 rcases key l ly h with h|h
 . cases h
 . exact h
theorem CW {w:World} {n b bk ba bd bs bv:Nat} {G:aT} {l:List aa} (h:cy w n b bk ba bd bs bv G) (g:bT G (ey l)) (hl:qF l): @bP (jZ w) b (ey l):=by
 letI:Inhabited aF:=jZ w
 have hb:=qg hl.2 l.length (Ah _);rw[Bg]at hb;exact F1 h g (hb.ok (by have:=hl.1;omega)) fun e he=>by
  have:=(rG (hl.2 e (Hq l he))).2;omega
section
theorem SG {w:World} {n b bk ba bd bs bv:Nat} {G:aT} (h:cy w n b bk ba bd bs bv G) (hl:G.kept.length<=100000) (k:Nat) (hk:k<=1000000):Calls Tryz.prog 68 #[.pointer (some ⟨b,0,none⟩), .int .i64 k] w fun e w'=>e= .returned (.bool (decide ((k:Int)<=2048 - (G.kept.length:Int))))/\w'=w:=by
 obtain⟨es,clk,hb,hsz⟩:=h.gF.len;have c0:=h.c0;have hlen:(Builtin.len_ #[99] 3 #[.map (some bk)]).run Tryz.prog w= .ok (.int .i64 G.kept.length) w:=by
  rw[run_len_map w 99 3 bk es clk (by simp[Program.mapKeyOf,Program.mapElemOf,Tryz.underlying99]) hb,hsz];rfl
 have hwr:wrap64 (2048 - (G.kept.length:Int))=2048 - (G.kept.length:Int):=by
  exact IntWalk.wrap64_in _ (by omega)
 clear h hb;go_enter Tryz.func68,Tryz.ntmps68
 go_wp2;go_ret;exact⟨rfl,rfl⟩
variable [Inhabited aF]
def It:aP:={Y:=Nat×ay×Nat,pre:=fun y=>bP y.1 y.2.1/\y.2.2<=1000000,args:=fun y=>[.wp ⟨y.1,0,none⟩,i64 y.2.2],res:=fun y=> .bool (decide (y.2.1.kept.length+y.2.2<=2048))}
theorem Pv (hdr:¬(default:aF).dr):CO tq It:=kv bH.ok (by
 rintro⟨b,m,k⟩ ⟨hpre,hk⟩ w args hold ⟨h1,h2⟩;match args,h1 with
 |[v,u],_=>
 have e1:=zl (h2 0 _ _ rfl rfl);have e2:=QO (h2 1 _ _ rfl rfl);subst e1 e2;obtain⟨n,bk,ba,bd,bs,bv,G,hO,hG⟩:=hpre.at_ w hold;have hkl:=hpre.ok.kept;refine(SG hO (by rw[hG.len];omega) k hk).mono ?_;rintro e w' ⟨rfl,rfl⟩;refine⟨_,rfl, .inr ?_,Below.refl _ _,fun h=>(hdr h).elim⟩;rw[hG.len,show decide ((k:Int)<=2048 - (m.kept.length:Int))=decide (m.kept.length+k<=2048)from by congr 1;apply propext;omega];exact .bool _)
def eB (m:ay):List aH:=(eU m).filter fun x=> !x.ae.persistent
def vi:aP:={Y:=Mp,pre:=fun y=>y.at,args:=fun y=>[y.arg],res:=fun y=>lA (eB y.m)}
def O8 (y:Nat×ay):aK:=let l:=eU y.2;{α:=Nat,ok:=fun i=>i<=l.length,μ:=fun i=>l.length - i,aU:=[],aR:=fun i=>[(3, .own 0),(7,lA l),(8,i64 (Int.ofNat l.length)),(9,i64 i)],bD:=fun i=>[(0,sD ((l.take i).filter fun x=> !x.ae.persistent))]}
theorem xV (hdr:¬(default:aF).dr):CO lI vi:=bZ (cfg:=fun(y:Mp)=>bU (Mp.gm sV y) (Mp.kW (fun z=>cS lI 3 (O8 z)) y)) bH (fun _=>rfl) (fun(y:Mp)=>zq (uC hdr) y) (n:=600) (by
 rintro(_|⟨b,m⟩) hm
 . repeat' (first|exact trivial|exact rfl|((conv=>whnf);first|(apply aA<;>intro)|apply And.intro))
 have hm:bP b m:=hm;have hil:=Mk hm.ok
 (conv=>whnf)
 refine⟨some (b,m),?_⟩
 repeat ((conv=>whnf);first|refine⟨rfl,?_⟩|refine⟨trivial,?_⟩)
 refine⟨hm,?_⟩
 (conv=>whnf)
 refine⟨⟨(0:Nat),Av _,?_⟩,?_⟩
 . repeat' (first|exact trivial|exact rfl|((conv=>whnf);first|(apply aA<;>intro)|apply And.intro))
   all_goals exact ar.2 ⟨_,rfl,ah.2 ⟨rfl,fun _=>rfl⟩⟩
 intro (x:Nat) hx;have hx:x<=(eU m).length:=hx;have hlen:=yM (l:=eU m) (x:=x) (p:=fun z:aH=> !z.ae.persistent)
 (conv=>whnf)
 refine aA (fun hlt=>?_) fun hge=>?_
 . have hlt':x<(eU m).length:=cY hlt;have hf:=u9 (p:=fun z:aH=> !z.ae.persistent) hlt';have mu:(eU m).length - (x+1)<(eU m).length - x:=by omega
   have hz:(((eU m).take x).filter fun z:aH=> !z.ae.persistent).length+1<=60000:=by omega
   (conv=>whnf)
   refine ar.2 ⟨_,dz hlt',?_⟩
   (conv=>whnf)
   refine aA (fun h=>?_) fun h=>?_
   . have h:(!(eU m)[x].ae.persistent)=true:=h;simp only[h,if_true]at hf
     (conv=>whnf)
     refine⟨(eU m)[x],rfl,?_⟩
     (conv=>whnf)
     refine ah.2 ⟨ri _ hz,?_⟩
     (conv=>whnf)
     refine ah.2 ⟨cM x (by omega),?_⟩
     (conv=>whnf)
     refine⟨(x+1:Nat),hlt',mu,?_⟩
     repeat' (first|exact trivial|exact rfl|((conv=>whnf);first|(apply aA<;>intro)|apply And.intro))
     all_goals ((conv=>whnf);rw[hf])
   . have h:(!(eU m)[x].ae.persistent)=false:=h;simp only[h,Ak,Aw,BW]at hf
     (conv=>whnf)
     refine ah.2 ⟨cM x (by omega),?_⟩
     (conv=>whnf)
     refine⟨(x+1:Nat),hlt',mu,?_⟩
     repeat' (first|exact trivial|exact rfl|((conv=>whnf);first|(apply aA<;>intro)|apply And.intro))
     all_goals ((conv=>whnf);rw[hf])
 . (conv=>whnf)
   refine⟨by rw[yL (kC hge)];rfl,?_⟩
   repeat' (first|exact trivial|exact rfl|((conv=>whnf);first|(apply aA<;>intro)|apply And.intro)))
end
section
section
variable [Inhabited aF]
end
theorem kE {w:World} {b o:Nat} {arr:Array Value} {ty:TypeId} {fz:Nat×Nat} (h:w.heap[b]? =some (.cells arr ty fz)):w.cell? ⟨b,o,none⟩=arr[o]? :=by simp[World.cell?,h]
theorem J1:fT ly:=⟨by decide,fun x hx=>(by cases hx),by decide,by decide⟩
end
def fv (n:Nat) (s:List ag):List (List ag):=match n with
 |0=>[]
 |n+1=>if s=[]then[]else s.take 64::fv n (s.drop 64)
def jk (v:Value):List Value:=[.int .i64 2, .string ⟨#[]⟩, .string ⟨#[]⟩, .string ⟨#[]⟩, .string ⟨#[]⟩, .bool false, .bool false, .bool false, .bool false, .int .i64 0, .int .i64 0, .int .i64 0,v]
def kR (L:List (List ag×Value)):List Value:=L.flatMap fun x=>jk x.2
theorem LR (L:List (List ag×Value)) (x:List ag×Value):kR (L++[x])=kR L++jk x.2:=by
 unfold kR;rw[Ew,DH,List.flatMap_nil,BW]
theorem CP:∀(n m:Nat) (s:List ag),s.length<=n->s.length<=m->fv n s=fv m s
 |0,m,s,h,_=>by
  have:s=[]:=AQ.1 (EM.1 h);subst this
  cases m<;>rfl
 |n+1,0,s,_,h=>by
  have:s=[]:=AQ.1 (EM.1 h);subst this;rfl
 |n+1,m+1,s,h1,h2=>by
  unfold fv;split
  . rfl
  . rename_i hne;have:0<s.length:=AZ.2 hne;rw[CP n m (s.drop 64) (by simp;omega) (by simp;omega)]
theorem L1 {s:List ag} {k Q:Nat} (hk:k<s.length) (hQ:Q=min (s.length - k) 64):fv (s.length - k) (s.drop k)=(s.drop k).take 64::fv (s.length - (k+Q)) (s.drop (k+Q)):=by
 obtain⟨n,hn⟩:∃n,s.length - k=n+1:=⟨s.length - k - 1,by omega⟩;have hne:s.drop k≠[]:=fun e=>by have:=Ax List.length e;simp at this;omega
 have hd:s.drop (k+64)=s.drop (k+Q):=by
  by_cases h:s.length - k<64
  . rw[Ek (by omega),Ek (by omega)]
  . congr 1;omega
 rw[hn];show(if s.drop k=[]then[]else(s.drop k).take 64::fv n ((s.drop k).drop 64))=_
 rw[if_neg hne,Et,hd];congr 1
 exact CP _ _ _ (by rw[BY];omega) (by rw[BY];omega)
theorem Cs {W8 w9:World} {m:Nat} {v v9:Value} (hg:W8.grownBy w9 v.ownBlock) (hat:v9.ownBlock=v.ownBlock\/v9.ownBlock=some W8.heap.size) {l:List ag} {x:Value} (h:db W8 (fun b=>m<=b/\some b≠v.ownBlock) l x):
   db w9 (fun b=>m<=b/\some b≠v9.ownBlock) l x:=h.aU fun b hp hb=>by
 refine⟨⟨hp.1,?_⟩,hg.block b hb hp.2⟩;rcases hat with h|h
 . rw[h];exact hp.2
 . rw[h];intro e;cases e;exact absurd hb (E7 _)
theorem Sj:∃i0 z by0,Tryz.prog.info? 124=some i0/\i0.zero=some z/\i0.size=13/\i0.bytes=by0/\z.cells.size=13/\by0<=256:=by
 have h:(Tryz.prog.info? 124).map (fun i=>(i.zero.map (·.cells.size),i.size,decide (i.bytes<=256)))=some (some 13,13,true):=by kernel_rfl
 cases e:Tryz.prog.info? 124 with
 |none=>rw[e]at h;cases h
 |some i=>
  rw[e]at h;simp only[A2,AL,BR]at h;obtain⟨h1,h2,h3⟩:=h
  cases hz:i.zero with
  |none=>rw[hz]at h1;cases h1
  |some z=>rw[hz]at h1;exact⟨i,z,i.bytes,rfl,hz,h2,rfl,by simpa using h1,BC h3⟩
theorem S4 {w:World} {l:List ag} {v:Value} (h:bY w l v) (hl:l.length<=1000000):
  Calls Tryz.prog 125 #[v] w fun e w'=>∃v' L,e= .returned v'/\L.map (·.1)=fv ((cw bu l).length) (cw bu l)/\(∀x∈L,db w' (fun b=>w.heap.size<=b) x.1 x.2)/\w'.ownsRow w.heap.size 124 13 v' L.length (kR L)/\Below w.heap.size w w':=by
 letI:Inhabited aF:=⟨⟨True,#[]⟩⟩
 have hsort:=JM h hl;obtain⟨s,hs⟩:∃s,cw bu l=s:=⟨_,rfl⟩;rw[hs]at hsort⊢;have hsl:s.length<=1000000:=by have:=qu (less:=bu) l [];rw[<-hs];unfold cw;simp at this;omega
 obtain⟨sa,sn,sc,rfl⟩:=h.one;go_enter Tryz.func125,Tryz.ntmps125
 go_wp2_with (go_at_call 156;refine hsort.mono ?_;rintro e w1 ⟨v1,rfl,hd1,hn1,hb1⟩)
 go_loopw [3,4] (fun v v4 wr=>∃(k:Nat) (L:List (List ag×Value)) (a4:Option Addr) (c4:Nat),k<=s.length/\L.length<=k/\v4= .slice a4 (s.length - k) c4/\(k<s.length->∃ob off cap arr ty fz,a4=some ⟨ob,off+k*3,none⟩/\c4=cap - k/\s.length<=cap/\w.heap.size<=ob/\w1.heap[ob]? =some (.cells arr ty fz)/\off+s.length*3<=arr.size/\
    ∀i (h:i<s.length),arr[off+i*3]? =some (.int .i64 s[i].dev)/\arr[off+i*3+1]? =some (.int .i64 s[i].inc)/\arr[off+i*3+2]? =some (.int .i64 s[i].seq))/\
    L.map (·.1)++fv (s.length - k) (s.drop k)=fv s.length s/\(∀x∈L,db wr (fun b=>w.heap.size<=b/\some b≠v.ownBlock) x.1 x.2)/\wr.ownsRow w1.heap.size 124 13 v L.length (kR L)/\Below w1.heap.size w1 wr)
  (fun _ v4 _=>match v4 with| .slice _ n _=>n|_=>0)
 case atStart=>
  rcases hd1 with⟨rfl,a,c,rfl⟩|⟨ob,off,cap,arr,ty,fz,rfl,hob,hcap,hsz,hcells⟩
  . exact⟨0,[],a,c,Ah _,Ah _,rfl,fun h=>absurd h (A9 _),rfl,fun x hx=>absurd hx (by simp),World.ownsRow_nil _ _ _ _,Below.refl _ _⟩
  . refine⟨0,[],_,cap,Av _,Ah _,rfl,fun h0=>⟨ob,off,cap,arr,ty,fz,by rw[D2,Bk],rfl,hcap,?_,hob,hsz,hcells⟩,rfl,fun x hx=>absurd hx (by simp),World.ownsRow_nil _ _ _ _,Below.refl _ _⟩;rcases hn1 with rfl|⟨b',off',k',c',he,hb'⟩
    . exact absurd h0 (E7 _)
    . cases he;exact hb'
 case round=>
  obtain⟨k,L,a4,c4,hk,hLk,rfl,hval,hL,hLd,hrow,hbr⟩:=hrel;by_cases hlt:k<s.length
  . obtain⟨ob,off,cap,arr,ty,fz,rfl,rfl,hcap,hob,harr,hasz,hcells⟩:=hval hlt;obtain⟨i4,z4,by4,hi4,hz40,hz41,hz42,hz43,hz44⟩:=Sj;obtain⟨Q,hQ⟩:∃Q,(min ((s.length - k:Nat):Int) 64).toNat=Q:=⟨_,rfl⟩;obtain⟨W,hW⟩:∃W,wr.alloc (.cells (jk (.slice (some ⟨ob,off+k*3,none⟩) Q Q)).toArray 124)=W:=⟨_,rfl⟩;have hbW:Below wr.heap.size wr W:=by rw[<-hW];exact(Below.refl _ _).alloc (Ah _) _
    have hnew:W.heap[wr.heap.size]? =some (.cells (jk (.slice (some ⟨ob,off+k*3,none⟩) Q Q)).toArray 124 (0,0)):=by rw[<-hW];exact World.alloc_heap_new _ _
    have hsW:W.heap.size=wr.heap.size+1:=by rw[<-hW];exact Da _
    have hrowW:W.ownsRow w1.heap.size 124 13 u3 L.length (kR L):=by rw[<-hW];exact hrow.alloc _
    have hnc:∀j u,(jk (.slice (some ⟨ob,off+k*3,none⟩) Q Q))[j]? =some u->W.cell? ((⟨wr.heap.size,0,none⟩:Addr).add j)=some u:=fun j u hj=>by
      rw[Addr.add_lit,Ay,kE hnew,AS];exact hj
    have hone:∀u∈jk (.slice (some ⟨ob,off+k*3,none⟩) Q Q),u.oneCell'=true:=by simp[jk,Value.oneCell']
    have hLlen:L.length<=s.length:=Aq hLk hk;have hmax:L.length+1<=maxLen:=by unfold maxLen;omega
    have hbyt:(L.length+1)*by4<=140737488355328:=Aq (EW (show L.length+1<=1000001 by omega) hz44) (by decide);have hbase:w1.heap.size<=W.heap.size:=Aq hbr.size hbW.size;have hLd':=hLd;have hL':=hL;clear hL hLd hs hsort hval;go_wp2_with (at_builtin;go_loud (refine F3 (W':=W) hW ?_;refine wpList_append_own_at _ rfl _ _ 64 rfl w1.heap.size 124 i4 _ 13 by4 Tryz.underlying64 hi4 hz40 hz41 hz42 hz43 (by decide) u3 L.length (kR L) rfl hrowW ⟨wr.heap.size,0,none⟩ 1 1 (jk (.slice (some ⟨ob,off+k*3,none⟩) Q Q)) rfl rfl hnc hone hmax hbyt hbase ?_;intro v9 w9 hrow9 hg9 hnil9 hat9))
    have hQ':Q=min (s.length - k) 64:=by omega
    have hob1:=(Ac.1 harr).1;have hnr:some ob≠u3.ownBlock:=fun e=>by have:=(hrow.lt ob e.symm).1;omega
    have hWb:∀b,b<wr.heap.size->W.heap[b]? =wr.heap[b]? :=fun b hb=>hbW.block b hb
    have hlen:((s.drop k).take 64).length=Q:=by simp;omega
    have hnewD:db W (fun b=>w.heap.size<=b/\some b≠u3.ownBlock) ((s.drop k).take 64) (.slice (some ⟨ob,off+k*3,none⟩) Q Q):=by
      refine .inr ⟨ob,off+k*3,Q,arr,ty,fz,by rw[hlen],⟨hob,hnr⟩,?_,by rw[hlen];exact Ah _,by rw[hlen];omega,fun i hi=>?_⟩
      . rw[hWb ob (AU hob1 hbr.size),hbr.block ob hob1];exact harr
      . have hi':k+i<s.length:=by rw[hlen]at hi;omega
        have hel:((s.drop k).take 64)[i]=s[k+i]:=by rw[Ee,B0]
        rw[hel,show off+k*3+i*3=off+(k+i)*3 by omega];exact hcells (k+i) hi'
    refine⟨⟨k+Q,L++[((s.drop k).take 64, .slice (some ⟨ob,off+k*3,none⟩) Q Q)],_,_,by omega,by simp;omega,by rw[Nat.sub_sub],fun hlt2=>⟨ob,off,cap,arr,ty,fz,?_,by omega,hcap,hob,harr,hasz,hcells⟩,?_,fun x hx=>?_,?_,?_⟩,?_⟩
    . rw[if_neg (by omega),show off+k*3+Q*3=off+(k+Q)*3 by omega]
    . rw[<-hL',L1 hlt hQ',AR];simp
    . rcases Ba.1 hx with hx|hx
      . exact Cs hg9 hat9 ((hLd' x hx).aU fun b hp hb=>⟨hp,hWb b hb⟩)
      . rw[BM.1 hx];exact Cs hg9 hat9 hnewD
    . rw[LR,Bj];exact hrow9
    . exact(hbr.trans (hbW.mono hbr.size)).grown hg9 hbase (fun j e=>(hrow.lt j e).1)
    . show s.length - k - Q<s.length - k;omega
  . have hks:k=s.length:=by omega
    subst hks;go_wp2;go_ret;rw[Nat.sub_self]at hL;refine⟨_,L,rfl,by simpa [fv]using hL,fun x hx=>(hLd x hx).aU fun b hp _=>⟨hp.1,rfl⟩,⟨hrow.1,?_⟩,hb1.trans (hbr.mono hb1.size)⟩;rcases hrow.2 with hn|⟨g,cap,cur,hv,hbg,rest⟩
    . exact .inl hn
    . exact .inr ⟨g,cap,cur,hv,Aq hb1.size hbg,rest⟩
section
structure dB where
 kind:Int
 item:aH
 over:List ag
def dB.enc (x:dB):List SV:=[.int .i64 x.kind, .str x.item.key.name, .str x.item.key.domain, .str x.item.key.path, .str x.item.ae.value, .bool x.item.ae.bI, .bool x.item.ae.cK, .bool x.item.ae.bJ, .bool x.item.ae.persistent,
 .int .i64 x.item.ae.cA, .int .i64 x.item.ae.bE, .int .i64 x.item.ae.access,cz x.over]
def ng (l:List dB):SV:= .aJ dB l dB.enc
def kS (c:List ag):dB:=⟨2,dJ,c⟩
def mW (l:List ag):List dB:=(fv (cw bu l).length (cw bu l)).map kS
theorem MO (L:List (List ag×Value)) (i:Nat) (h:i<L.length) (j:Nat) (hj:j<13):(kR L)[i*13+j]? =(jk L[i].2)[j]? :=by
 induction L generalizing i with
 |nil=>exact absurd h (A9 _)
 | cons x L ih=>
  have hr:kR (x::L)=jk x.2++kR L:=by unfold kR;rw[DH]
  have hl:(jk x.2).length=13:=rfl;rw[hr]
  cases i with
  |zero=>rw[D2,Ay,AX (by omega)];rfl
  |succ i=>
   rw[A3 (by omega),hl,show(i+1)*13+j - 13=i*13+j by omega];exact ih i (by simpa using h)
section
variable [Inhabited aF]
theorem QY {w:World} {p:Nat->Prop} {n:Nat} {L:List (List ag×Value)} {v:Value} (hp:∀b,p b->n<=b) (hd:∀x∈L,db w p x.1 x.2) (h:w.ownsRow n 124 13 v L.length (kR L)):Up w n (ng (L.map fun x=>kS x.1)) v:=by
 unfold ng;obtain⟨hlen,hr⟩:=h;rcases hr with⟨rfl,h0⟩|⟨g,cap,cur,rfl,hpp,hb,hc,hm,hsz,htk⟩
 . exact .gE (by simpa using h0)
 . rw[show L.length=(L.map fun x=>kS x.1).length by simp];have cell:∀i (hi:i<L.length) j,j<13->cur[i*13+j]? =(jk L[i].2)[j]? :=fun i hi j hj=>by
     rw[<-MO L i hi j hj,<-htk,Be,if_pos (by omega),Bd]
   refine .aJ g 0 cap cur 124 (0,0) 13 (fun i j=>(cur[i*13+j]?).getD (.bool false)) hpp hb (by decide) (by simp;omega) (fun _ _ _=>rfl) (by simpa using hc) (fun i x j v hx hv=>?_) (fun i x j v hx hv=>?_) (fun i x j v hx hv=>?_)
   . have hj:j<13:=(Ad.1 hv).1;match j,hj with
     |0,_|1,_|2,_|3,_|4,_|5,_|6,_|7,_|8,_|9,_|10,_|11,_|12,_=>cases hv;rfl
   all_goals
     have hil:i<L.length:=by simpa using(Ad.1 hx).1
     have hxe:kS L[i].1=x:=by simpa using(Ad.1 hx).2
     have hdi:=hd _ (AF hil);have hj:j<13:=(Ad.1 hv).1;have hcl:=cell i hil j hj;subst hxe
   . rw[Ay,hcl,Ag (show j<(jk L[i].2).length from hj)];rfl
   . show Up w n v ((cur[i*13+j]?).getD _)
     rw[hcl];match j,hj with
     |0,_|9,_|10,_|11,_=>cases hv;exact .int _ _
     |1,_|2,_|3,_|4,_=>cases hv;exact .str _
     |5,_|6,_|7,_|8,_=>cases hv;exact .bool _
     |12,_=>cases hv;exact GK hp hdi
def GB:aP:={Y:=List ag,pre:=fun y=>y.length<=1000000,args:=fun y=>[cz y],res:=fun y=>ng (mW y)}
theorem Na (hdr:¬(default:aF).dr):CO tv GB:=kv bH.ok (by
 rintro l hl w args hold ⟨h1,h2⟩;match args,h1 with
 |[v],_=>
 have e1:=sq (h2 0 _ _ rfl rfl);refine(S4 e1 hl).mono ?_;rintro e w' ⟨v',L,rfl,hL,hd,hr,hb⟩;refine⟨_,rfl, .inr ?_,hb,fun h=>(hdr h).elim⟩;show Up w' w.heap.size (ng (mW l)) v'
 unfold mW;rw[<-hL,Bw];exact QY (fun _ h=>h) hd hr)
def ow (l:List dB):Prop:=l.length<=100000/\ ∀d∈l,d.over.length<=64
noncomputable def ze (f:FuncId):Option aP:=bif Nat.beq f tv then some GB else bif Nat.beq f tq then some It else bif Nat.beq f lI then some vi else sV f
theorem Gt (hdr:¬(default:aF).dr):∀f C,ze f=some C->CO f C:=bX (Na hdr) (bX (Pv hdr) (bX (xV hdr) (uC hdr)))
def IQ:aP:={Y:=Nat×ay×List dB,pre:=fun y=>bP y.1 y.2.1/\ow y.2.2,args:=fun y=>[.wp ⟨y.1,0,none⟩,ng y.2.2],res:=fun y=> .bool (decide (y.2.1.kept.length+y.2.2.length<=2048))}
def RO (l:List dB):aK:={α:=Nat,ok:=fun i=>i<=l.length,μ:=fun i=>l.length - i,aU:=[0,1],aR:=fun i=>[(7,ng l),(8,i64 (Int.ofNat l.length)),(9,i64 i)],bD:=fun _=>[]}
theorem Rl (hdr:¬(default:aF).dr):CO pQ IQ:=bZ (cfg:=fun(y:Nat×ay×List dB)=>bU ze (cS pQ 2 (RO y.2.2))) bH (fun _=>rfl) (fun _=>Gt hdr) (n:=600) (by
 rintro⟨b,m,l⟩ ⟨hm,hl⟩;have hm:bP b m:=hm;have hl:ow l:=hl;have hl1:=hl.1
 (conv=>whnf)
 refine⟨⟨(0:Nat),Av _,?_⟩,?_⟩
 . repeat' (first|exact trivial|exact rfl|((conv=>whnf);first|(apply aA<;>intro)|apply And.intro))
 intro (x:Nat) hx;have hx:x<=l.length:=hx
 (conv=>whnf)
 refine aA (fun hlt=>?_) fun hge=>?_
 . have hlt':x<l.length:=cY hlt;have hov:=hl.2 l[x] (AF hlt')
   (conv=>whnf)
   refine ar.2 ⟨_,dz hlt',?_⟩
   (conv=>whnf)
   refine aA (fun h=>?_) fun h=>?_
   . exfalso;have h:bV 64 (Int.ofNat l[x].over.length)=true:=h;rw[cm,Ae]at h;have h:(64:Int)<(l[x].over.length:Int):=h;omega
   . (conv=>whnf)
     refine ah.2 ⟨cM x (by omega),?_⟩
     (conv=>whnf)
     refine⟨(x+1:Nat),hlt',by show l.length - (x+1)<l.length - x;omega,?_⟩
     repeat' (first|exact trivial|exact rfl|((conv=>whnf);first|(apply aA<;>intro)|apply And.intro))
 . (conv=>whnf)
   refine⟨(b,m,l.length),?_⟩
   repeat ((conv=>whnf);first|refine⟨rfl,?_⟩|refine⟨trivial,?_⟩)
   refine⟨⟨hm,by show l.length<=1000000;omega⟩,?_⟩
   repeat' (first|exact trivial|exact rfl|((conv=>whnf);first|(apply aA<;>intro)|apply And.intro)))
end
end
section
theorem GG:∀(n:Nat) (s:List ag),(fv n s).length<=s.length
 |0,s=>Av _
 |n+1,s=>by
  unfold fv;split
  . exact Av _
  . rename_i h;have h1:=GG n (s.drop 64);have h2:0<s.length:=AZ.2 h;rw[BY]at h1;rw[A1];omega
theorem Cq:∀(n:Nat) (s:List ag),∀c∈fv n s,c.length<=64
 |0,s,c,h=>by cases h
 |n+1,s,c,h=>by
  unfold fv at h;split at h
  . cases h
  . rcases Aj.1 h with rfl|h
    . rw[Bz];omega
    . exact Cq n _ c h
def dO (m:ay) (l:List aH):List ag:=l.flatMap fun x=>nm m x.key
theorem Ox (l:List ag):(cw bu l).length<=l.length:=by
 letI:Inhabited aF:=⟨⟨True,#[]⟩⟩
 have:=qu (less:=bu) l [];unfold cw;simpa using this
theorem w7 (l:List ag):(mW l).length<=l.length:=by unfold mW;rw[A6];exact Aq (GG _ _) (Ox l)
theorem Lk {l:List ag} (h:l.length<=100000):ow (mW l):=by
 refine⟨Aq (w7 l) h,fun d hd=>?_⟩;unfold mW at hd;obtain⟨c,hc,rfl⟩:=Ar.1 hd;exact Cq _ _ c hc
theorem yi {m:ay} {a b:Nat} (hd:∀k,(nm m k).length<=b):∀{l:List aH},l.length<=a->(dO m l).length<=a*b
 |[],h=>Av _
 |x::l,h=>by
  obtain⟨c,rfl⟩:∃c,a=c+1:=⟨a - 1,by simp at h;omega⟩;have h1:=yi hd (a:=c) (l:=l) (by simpa using h);unfold dO at h1⊢;rw[DH,Bj,Nat.succ_mul];have:=hd x.key;omega
theorem ME {m:ay} {l:List aH} {i:Nat} (h:i<l.length):dO m (l.take (i+1))=dO m (l.take i)++nm m l[i].key:=by
 unfold dO;rw[Az h,Ew];simp
section
variable [Inhabited aF]
theorem yp (m:ay) (k:aC):(nm m k).length<=m.kept.length:=by
 unfold nm;rw[A6];exact Aq (A7 _ _) (A7 _ _)
def jg (m:ay):List dB:=mW (dO m (eB m))
noncomputable def I4 (f:FuncId):Option aP:=bif Nat.beq f pQ then some IQ else ze f
theorem NT (hdr:¬(default:aF).dr):∀f C,I4 f=some C->CO f C:=bX (Rl hdr) (Gt hdr)
def IP:aP:={Y:=Nat×ay,pre:=fun y=>bP y.1 y.2/\y.2.kept.length<=40,args:=fun y=>[.wp ⟨y.1,0,none⟩],res:=fun y=> .bj [ng (jg y.2),i64 0]}
def O7 (m:ay) (l:List aH) (k:Nat):aK:={α:=Nat,ok:=fun i=>i<=l.length,μ:=fun i=>l.length - i,aU:=[0,2],aR:=fun i=>[(8, .own k),(12,lA l),(13,i64 (Int.ofNat l.length)),(14,i64 i)],bD:=fun i=>[(k, .arr ag (dO m (l.take i)) ag.enc Ty.mD)]}
theorem IF (hdr:¬(default:aF).dr):CO JG IP:=bZ (cfg:=fun(y:Nat×ay)=>bU I4 (cS RF 3 (O7 y.2 (eB y.2) 0))) bH (fun _=>rfl) (fun _=>NT hdr) (n:=900) (by
 rintro⟨b,m⟩ ⟨hm,hk⟩;have hm:bP b m:=hm;have hk:m.kept.length<=40:=hk;have hil:(eB m).length<=40:=by
   have h1:=yf m;have h2:(eB m).length<=(eU m).length:=A7 _ _;omega
 have hal:∀{l:List aH},l.length<=40->(dO m l).length<=1600:=fun h=>yi (fun k=>Aq (yp m k) hk) h
 (conv=>whnf)
 refine⟨some (b,m),?_⟩
 repeat ((conv=>whnf);first|refine⟨rfl,?_⟩|refine⟨trivial,?_⟩)
 refine⟨hm,?_⟩
 (conv=>whnf)
 refine⟨⟨(0:Nat),Av _,?_⟩,?_⟩
 . repeat' (first|exact trivial|exact rfl|((conv=>whnf);first|(apply aA<;>intro)|apply And.intro))
   all_goals exact ar.2 ⟨_,rfl,ah.2 ⟨rfl,fun _=>rfl⟩⟩
 intro (x:Nat) hx;have hx:x<=(eB m).length:=hx
 (conv=>whnf)
 refine aA (fun hlt=>?_) fun hge=>?_
 . have hlt':x<(eB m).length:=cY hlt
   (conv=>whnf)
   refine ar.2 ⟨_,dz hlt',?_⟩
   (conv=>whnf)
   refine⟨((some (b,m),(eB m)[x].key):Mp×aC),?_⟩
   repeat ((conv=>whnf);first|refine⟨rfl,?_⟩|refine⟨trivial,?_⟩)
   refine⟨hm,?_⟩
   (conv=>whnf)
   have hf:=ME (m:=m) hlt';have h1:=hal (l:=(eB m).take x) (by rw[Bz];omega);have h2:=Aq (yp m (eB m)[x].key) hk;refine⟨fun _=>⟨rfl,rfl⟩,nm m (eB m)[x].key,rfl,ah.2 ⟨zD _ (by show(dO m ((eB m).take x)).length+(nm m (eB m)[x].key).length<=600000;omega),?_⟩⟩
   (conv=>whnf)
   refine ah.2 ⟨cM x (by omega),?_⟩
   (conv=>whnf)
   refine⟨(x+1:Nat),hlt',by show(eB m).length - (x+1)<(eB m).length - x;omega,?_⟩
   repeat' (first|exact trivial|exact rfl|((conv=>whnf);first|(apply aA<;>intro)|apply And.intro))
   all_goals ((conv=>whnf);rw[hf])
 . have hge':(eB m).length<=x:=fY hge;have h1:=hal (l:=eB m) hil;have hrl:=w7 (dO m (eB m))
   (conv=>whnf)
   refine⟨dO m (eB m),?_⟩
   (conv=>whnf)
   refine⟨by rw[As hge'],?_⟩
   repeat ((conv=>whnf);first|refine⟨rfl,?_⟩|refine⟨trivial,?_⟩)
   refine⟨by show(dO m (eB m)).length<=1000000;omega,?_⟩
   (conv=>whnf)
   refine⟨(b,m,jg m),?_⟩
   repeat ((conv=>whnf);first|refine⟨rfl,?_⟩|refine⟨trivial,?_⟩)
   refine⟨⟨hm,Lk (by omega)⟩,?_⟩;have hfit:decide (m.kept.length+(jg m).length<=2048)=true:=BD (by unfold jg;omega)
   (conv=>whnf)
   refine aA (fun h=>?_) fun h=>?_
   . have h:(!decide (m.kept.length+(jg m).length<=2048))=true:=h;rw[hfit]at h;cases h
   . repeat' (first|exact trivial|exact rfl|((conv=>whnf);first|(apply aA<;>intro)|apply And.intro)))
end
end
section
variable [Inhabited aF]
def iO (i:Nat) (c:List ag):aa:=⟨⟨63,1048576,(i:Int)+1⟩,⟨4398046511104,i,63⟩,2,dJ.key,dJ.ae,c⟩
structure mR (c:List ag):Prop where
 ne:c≠[]
 le:c.length<=64
 dot:∀d∈c,eL d=true
 own:∀d∈c,¬(d.dev=63/\d.inc=1048576)
 up:c.Pairwise fun x y=>bu x y=true
theorem Ol {i:Nat} {c:List ag} (h:mR c) (hi:i<=60000):fC (iO i c)=true:=by
 unfold fC iO;have h1:eL ⟨63,1048576,(i:Int)+1⟩=true:=by
  simp only[eL,sO,fg,Ab,Ae];omega
 have h2:kI ⟨4398046511104,i,63⟩=true:=by
  simp only[kI,kL,fg,Ab,Ae];omega
 have h3:gT ⟨63,1048576,(i:Int)+1⟩ c=true:=by
  unfold gT;rw[Ab,Ae,Ae];refine⟨h.le,fun j hj=>?_⟩;have hd:=h.dot c[j] (AF hj);have ho:=h.own c[j] (AF hj);have hu:∀(h0:0<j),bu c[j - 1] c[j]=true:=fun h0=>Bo.1 h.up (j - 1) j (by omega) hj (by omega)
  unfold iJ;have e1:(decide (j=0)||bu (c[j - 1]'(by omega)) c[j])=true:=by
   by_cases h0:j=0
   . rw[BD h0];rfl
   . rw[hu (by omega)];simp
  have e2:(c[j].dev==63&&c[j].inc==1048576)=false:=by
   rw[AN];intro e;rw[Ab,BJ,BJ]at e;exact ho e
  rw[hd,e1];show(true&&true&& !((c[j].dev==63&&c[j].inc==1048576)&&_))=true
  rw[e2];rfl
 have h4:bV 0 (Int.ofNat c.length)=true:=by
  rw[cm,Ae];have:=AZ.2 h.ne;exact Int.ofNat_lt.2 this
 have h5:lC dJ=true:=by unfold lC;exact BD rfl
 have h6:((63:Int)==63)=true:=rfl;show(eL _&&kI _&&((63:Int)==63)&&gT _ c&&(bif (2:Int)==2 then lC dJ&&bV 0 (Int.ofNat c.length)else _))=true
 rw[h1,h2,h3,h4,h5];rfl
def kT (m:ay) (i:Nat) (c:List ag):ay:=⟨fx m.ctx 63 1048576 ((i:Int)+1),eQ m.kept (iO i c),cw bu (m.dead++c)⟩
theorem G0 {m:ay} {i:Nat} {c:List ag} (h:mR c) (hi:i<=60000) (hg:getM m.ctx 63 1048576=i) (hk:m.kept.length<2048):dN m (iO i c)=(kT m i c,true,0):=by
 have h2:dX m.ctx (iO i c).dot=false:=by
  unfold dX iO;show(eL _&&bG ((i:Int)+1) (getM m.ctx 63 1048576))=false
  rw[hg,fg,Bu (by omega),BT]
 have h3:getM m.ctx (iO i c).dot.dev (iO i c).dot.inc+1=(iO i c).dot.seq:=by
  show getM m.ctx 63 1048576+1=(i:Int)+1
  rw[hg]
 unfold dN;rw[if_neg (by rw[Ol h hi];decide),if_neg (by rw[h2];decide),if_neg (by rw[h3];simp),if_neg (by omega)];rfl
theorem Oj {m:ay} {i:Nat} {c:List ag}:bM (kT m i c)=(bM m).filter fun e=> !decide (e.dot∈c):=by
 unfold bM kT eQ;rw[Dp,BQ];have h0:jU ⟨fx m.ctx 63 1048576 ((i:Int)+1),m.kept.take (ji m.kept (iO i c))++iO i c::m.kept.drop (ji m.kept (iO i c)),cw bu (m.dead++c)⟩ (iO i c)=false:=rfl;rw[h0];simp only[Ak,Aw];rw[<-Dp,Dh,Dn];refine EH fun e _=>?_
 unfold jU;simp only[mT,Ba];by_cases h1:e.dot∈m.dead<;>by_cases h2:e.dot∈c<;>simp[h1,h2]
theorem QS {m:ay} {i:Nat} {c:List ag}:getM (kT m i c).ctx 63 1048576=((i+1:Nat):Int):=by
 unfold kT;rw[ye,if_pos ⟨rfl,rfl⟩];rfl
theorem QT {m:ay} {i:Nat} {c:List ag}:(kT m i c).kept.length=m.kept.length+1:=by
 unfold kT eQ;have:ji m.kept (iO i c)<=m.kept.length:=oX _ _;simp;omega
def dI (m:ay):Nat->List (List ag)->ay
 |_,[]=>m
 |i,c::cs=>dI (kT m i c) (i+1) cs
theorem Gf:∀(cs:List (List ag)) (m:ay) (i:Nat),bM (dI m i cs)=(bM m).filter fun e=> !decide (e.dot∈cs.flatten)
 |[],m,i=>(BU.2 fun _ _=>by simp).symm
 |c::cs,m,i=>by
  rw[dI,Gf cs,Oj,Dn];refine EH fun e _=>?_
  by_cases h1:e.dot∈c<;>by_cases h2:e.dot∈cs.flatten<;>simp_all
theorem CN:∀(n:Nat) (s:List ag),s.length<=n->(fv n s).flatten=s
 |0,s,h=>by
  have:s=[]:=AQ.1 (EM.1 h);subst this;rfl
 |n+1,s,h=>by
  unfold fv;split
  . rename_i h0;rw[h0];rfl
  . rename_i h0;have:0<s.length:=AZ.2 h0;rw[List.flatten_cons,CN n (s.drop 64) (by rw[BY];omega),Dh]
theorem GH:∀(n:Nat) (s:List ag),(∀d∈s,eL d=true)->(∀d∈s,¬(d.dev=63/\d.inc=1048576))->s.Pairwise (fun x y=>bu x y=true)->∀c∈fv n s,mR c
 |0,s,_,_,_,c,h=>by cases h
 |n+1,s,h1,h2,h3,c,h=>by
  unfold fv at h;split at h
  . cases h
  . rename_i h0;rcases Aj.1 h with rfl|h
    . exact⟨by intro e;have:=Ax List.length e;have h4:=AZ.2 h0;rw[Bz,Bb]at this;omega,by rw[Bz];omega,fun d hd=>h1 d (Di hd),fun d hd=>h2 d (Di hd),h3.sublist (List.take_sublist _ _)⟩
    . exact GH n _ (fun d hd=>h1 d (DU hd)) (fun d hd=>h2 d (DU hd)) (h3.sublist (List.drop_sublist _ _)) c h
theorem Hr {G:aT} {m:ay} (g:bT G m) {k:aC} (h:aG m k≠[]):(∃x∈eB m,x.key=k)↔(cT m k).1.ae.persistent=false:=by
 have hk:(cT m k).1.key=k:=(cu.1 (qi h)).2;constructor
 . rintro⟨x,hx,hxk⟩;obtain⟨h1,h2⟩:=AB.1 hx;obtain⟨y,hy,rfl⟩:=Ar.1 h1;obtain⟨k',hk',rfl⟩:=(rI g y).1 hy;have hkk:(cT m k').1.key=k':=(cu.1 (qi hk')).2;have he:k'=k:=hkk.symm.trans hxk;subst he;have h2:(!(cT m k').1.ae.persistent)=true:=h2;simpa using h2
 . intro hp;refine⟨(cT m k).1.item,AB.2 ⟨Ar.2 ⟨_,(rI g _).2 ⟨k,h,rfl⟩,rfl⟩,?_⟩,hk⟩;show(!(cT m k).1.ae.persistent)=true
   rw[hp];rfl
theorem vm {G:aT} {m:ay} (g:bT G m) {cs:List (List ag)} (hcs:cs.flatten=cw bu (dO m (eB m))) (k:aC):((∃x∈eB m,x.key=k)->aG (dI m 0 cs) k=[])/\((¬∃x∈eB m,x.key=k)->aG (dI m 0 cs) k=aG m k):=by
 have he:aG (dI m 0 cs) k=(aG m k).filter fun e=> !decide (e.dot∈cs.flatten):=by
   unfold aG;rw[Gf,Dn,Dn];exact EH fun e _=>Bool.and_comm _ _
 have hin:∀e∈aG m k,e.dot∈cs.flatten↔∃x∈eB m,x.key=k:=by
   intro e hm;obtain⟨hal,hek⟩:=cu.1 hm;rw[hcs,mT];unfold dO nm;rw[List.mem_flatMap];constructor
   . rintro⟨x,hx,hd⟩;obtain⟨e',he',hdd⟩:=Ar.1 hd;obtain⟨hal',hek'⟩:=cu.1 he';have:=yh g hal' hal hdd;subst this;exact⟨x,hx,hek'.symm.trans hek⟩
   . rintro⟨x,hx,rfl⟩;exact⟨x,hx,Ar.2 ⟨e,hm,rfl⟩⟩
 rw[he];refine⟨fun hP=>?_,fun hP=>?_⟩
 . rw[Ej];intro e hm;simp[(hin e hm).2 hP]
 . rw[BU];intro e hm;have:¬e.dot∈cs.flatten:=fun h=>hP ((hin e hm).1 h)
   simp[this]
theorem Lm {G G':aT} {m:ay} {cs:List (List ag)} (g:bT G m) (hcs:cs.flatten=cw bu (dO m (eB m))) (g':bT G' (dI m 0 cs)):eX (dI m 0 cs)=(eX m).filter fun e=>e.ae.persistent:=by
 refine tT (less:=jJ) (fun x=>tK _) (fun x y z=>qd _ _ _) (wS g') (DO DX (wS g)) fun y=>?_
 rw[rI g',AB,rI g];have hw:∀k,(¬∃x∈eB m,x.key=k)->cT (dI m 0 cs) k=cT m k:=fun k hP=>by
   unfold cT;rw[(vm g hcs k).2 hP]
 constructor
 . rintro⟨k,hk,rfl⟩;by_cases hP:∃x∈eB m,x.key=k
   . exact absurd ((vm g hcs k).1 hP) hk
   . rw[(vm g hcs k).2 hP]at hk;rw[hw k hP];refine⟨⟨k,hk,rfl⟩,?_⟩
     cases e:(cT m k).1.ae.persistent with
     |true=>rfl
     |false=>exact absurd ((Hr g hk).2 e) hP
 . rintro⟨⟨k,hk,rfl⟩,hp⟩;have hP:¬∃x∈eB m,x.key=k:=fun hP=>by rw[(Hr g hk).1 hP]at hp;cases hp
   exact⟨k,by rw[(vm g hcs k).2 hP];exact hk,by rw[hw k hP]⟩
theorem Gg {G G':aT} {m:ay} {cs:List (List ag)} (g:bT G m) (hcs:cs.flatten=cw bu (dO m (eB m))) (g':bT G' (dI m 0 cs)):eU (dI m 0 cs)=(eU m).filter fun x=>x.ae.persistent:=by
 unfold eU;rw[Lm g hcs g',List.filter_map];rfl
theorem Om {G G':aT} {m:ay} {cs:List (List ag)} (g:bT G m) (hcs:cs.flatten=cw bu (dO m (eB m))) (g':bT G' (dI m 0 cs)):eB (dI m 0 cs)=[]:=by
 unfold eB;rw[Gg g hcs g',Dn,Ej];intro x _;simp
theorem MD {G:aT} {m:ay} (g:bT G m) {e:aa} (h:e∈m.kept):eL e.dot=true/\(getM m.ctx 63 1048576=0->¬(e.dot.dev=63/\e.dot.inc=1048576)):=by
 have hh:=g.ctx e h;unfold dX at hh;rw[Ab]at hh;refine⟨hh.1,fun h0 hc=>?_⟩;have h2:=hh.2;rw[hc.1,hc.2,h0,fg,Ae]at h2;have h3:=hh.1;simp only[eL,fg,Ab,Ae]at h3;omega
theorem NO {m:ay} {l:List aH} {d:ag} (h:d∈dO m l):∃e∈m.kept,e.dot=d:=by
 unfold dO at h;obtain⟨x,hx,hd⟩:=List.mem_flatMap.1 h;obtain⟨e,he,rfl⟩:=Ar.1 hd;exact⟨e,(AB.1 (cu.1 he).1).1,rfl⟩
theorem Qd {G:aT} {m:ay} (g:bT G m) (h0:getM m.ctx 63 1048576=0):∀c∈fv (cw bu (dO m (eB m))).length (cw bu (dO m (eB m))),mR c:=by
 refine GH _ _ (fun d hd=>?_) (fun d hd=>?_) (zR (fun x=>rC x) (fun x y z=>rD) tP _)
 all_goals
   obtain⟨e,he,rfl⟩:=NO (mT (less:=bu) _ _|>.1 hd);have:=MD g he
 . exact this.1
 . exact this.2 h0
end
section
def gj (w:World) (u:Value) (m:ay):Prop:=∃vc vk vd,u= .agg #[vc,vk,vd]/\bY w m.ctx vc/\fa w m.kept vk/\bY w m.dead vd
theorem gj.cells {w w':World} (hc:iG w w') {u:Value} {m:ay} (h:gj w u m):gj w' u m:=by
 obtain⟨vc,vk,vd,h1,h2,h3,h4⟩:=h;exact⟨vc,vk,vd,h1,h2.cells hc,h3.cells hc,h4.cells hc⟩
section
variable [Inhabited aF]
theorem Qi {w:World} {p:Nat->Prop} {g:Bool} {m:ay} {u:Value} (h:Rd w p g (.agg m.enc) u):gj w u m:=by
 cases h with
 | @agg cs vs h1 h2=>
  obtain⟨l⟩:=vs;match l,h1 with
  |[x,y,z],_=>exact⟨x,y,z,rfl,sq (h2 0 _ _ rfl rfl),Iw (h2 1 _ _ rfl rfl),sq (h2 2 _ _ rfl rfl)⟩
theorem QQ {w:World} {m:ay} {u:Value} (h:gj w u m):Rd w (fun _=>True) true (.agg m.enc) u:=by
 obtain⟨vc,vk,vd,rfl,h1,h2,h3⟩:=h;refine .agg rfl fun i c x hc hx=>?_
 have hj:i<3:=(Ad.1 hc).1;match i,hj with
 |0,_=>cases hc;cases hx;exact sB h1
 |1,_=>cases hc;cases hx;exact vE h2
 |2,_=>cases hc;cases hx;exact sB h3
theorem Nl (m:ay):∀c∈m.enc,Flat c:=by
 intro c hc;unfold ay.enc at hc;simp only[Aj,BX,DT]at hc;rcases hc with rfl|rfl|rfl
 . exact rN _
 . exact uJ _
 . exact rN _
def kQ (d:ag):Bool:=d.dev==63&&(d.inc==1048576&&true)
def lB (m:ay):Bool:= !(m.ctx.any kQ)&& !(m.dead.any kQ)
def IS:aP:={Y:=ay,pre:=fT,args:=fun y=>[.agg y.enc],res:=fun y=> .bool (lB y)}
def Qy (l:List ag):aK:={α:=Nat,ok:=fun i=>i<=l.length/\(l.take i).any kQ=false,μ:=fun i=>l.length - i,aU:=[1],aR:=fun i=>[(3,i64 i)],bD:=fun _=>[]}
def Qz (l:List ag):aK:={α:=Nat,ok:=fun i=>i<=l.length/\(l.take i).any kQ=false,μ:=fun i=>l.length - i,aU:=[1],aR:=fun i=>[(4,i64 i)],bD:=fun _=>[]}
theorem FV {l:List ag} {i:Nat} (h:i<l.length):(l.take (i+1)).any kQ=((l.take i).any kQ||kQ l[i]):=by
 rw[Az h,List.any_append];simp
theorem Rn:CO pK IS:=bZ (cfg:=fun(y:ay)=>bU yY (sr pK 7 (Qz y.dead) (cS pK 2 (Qy y.ctx)))) bH (fun _=>rfl) (fun _=>Hg) (n:=900) (by
 intro (m:ay) (hm:fT m);have h1:=hm.ctx;have h2:=hm.dead
 (conv=>whnf)
 refine⟨⟨(0:Nat),⟨Av _,rfl⟩,?_⟩,?_⟩
 . repeat' (first|exact trivial|exact rfl|((conv=>whnf);first|(apply aA<;>intro)|apply And.intro))
 rintro(x:Nat) ⟨hx,hno⟩;have hx:x<=m.ctx.length:=hx
 (conv=>whnf)
 refine aA (fun hlt=>?_) fun hge=>?_
 . have hlt':x<m.ctx.length:=cY hlt;have hn:=FV hlt'
   (conv=>whnf)
   refine ar.2 ⟨_,dz hlt',?_⟩
   (conv=>whnf)
   refine aA (fun h=>?_) fun h=>?_
   . have hf:lB m=false:=by
      have:m.ctx.any kQ=true:=DR.2 ⟨_,AF hlt',h⟩;unfold lB;rw[this];rfl
     (conv=>whnf)
     refine⟨hf.symm,?_⟩
     repeat' (first|exact trivial|exact rfl|((conv=>whnf);first|(apply aA<;>intro)|apply And.intro))
   . (conv=>whnf)
     refine ah.2 ⟨cM x (by omega),?_⟩
     (conv=>whnf)
     have h:kQ m.ctx[x]=false:=h;refine⟨(x+1:Nat),⟨hlt',by rw[hn,hno,h];rfl⟩,by show m.ctx.length - (x+1)<m.ctx.length - x;omega,?_⟩
     repeat' (first|exact trivial|exact rfl|((conv=>whnf);first|(apply aA<;>intro)|apply And.intro))
 have hge':m.ctx.length<=x:=fY hge;rw[As hge']at hno
 (conv=>whnf)
 refine⟨⟨(0:Nat),⟨Av _,rfl⟩,?_⟩,?_⟩
 . repeat' (first|exact trivial|exact rfl|((conv=>whnf);first|(apply aA<;>intro)|apply And.intro))
 rintro(x2:Nat) ⟨hx2,hno2⟩;have hx2:x2<=m.dead.length:=hx2
 (conv=>whnf)
 refine aA (fun hlt=>?_) fun hge=>?_
 . have hlt':x2<m.dead.length:=cY hlt;have hn:=FV hlt'
   (conv=>whnf)
   refine ar.2 ⟨_,dz hlt',?_⟩
   (conv=>whnf)
   refine aA (fun h=>?_) fun h=>?_
   . have hf:lB m=false:=by
      have:m.dead.any kQ=true:=DR.2 ⟨_,AF hlt',h⟩;unfold lB;rw[this];simp
     (conv=>whnf)
     refine⟨hf.symm,?_⟩
     repeat' (first|exact trivial|exact rfl|((conv=>whnf);first|(apply aA<;>intro)|apply And.intro))
   . (conv=>whnf)
     refine ah.2 ⟨cM x2 (by omega),?_⟩
     (conv=>whnf)
     have h:kQ m.dead[x2]=false:=h;refine⟨(x2+1:Nat),⟨hlt',by rw[hn,hno2,h];rfl⟩,by show m.dead.length - (x2+1)<m.dead.length - x2;omega,?_⟩
     repeat' (first|exact trivial|exact rfl|((conv=>whnf);first|(apply aA<;>intro)|apply And.intro))
 have hge2:m.dead.length<=x2:=fY hge;rw[As hge2]at hno2;have hf:lB m=true:=by unfold lB;rw[hno,hno2];rfl
 (conv=>whnf)
 refine⟨hf.symm,?_⟩
 repeat' (first|exact trivial|exact rfl|((conv=>whnf);first|(apply aA<;>intro)|apply And.intro)))
theorem Nq {m:ay} (h:lB m=true):getM m.ctx 63 1048576=0:=by
 unfold lB at h;rw[Ab]at h;have h1:m.ctx.any kQ=false:=by simpa using h.1
 unfold getM;rw[D7.2 fun x hx=>?_];have:=List.any_eq_false.1 h1 x hx;exact this
end
end
structure gC (b0:Nat) (w w':World):Prop where
 same:∀i,i≠b0->w'.heap[i]? =w.heap[i]?
 bare:∀arr e fz,w.heap[b0]? =some (.cells arr e fz)->∀(i:Nat) (k:IntKind) (z:Int),arr[i]? ≠some (Value.int k z)
theorem bY.box {w w':World} {b0:Nat} (hb:gC b0 w w') {l:List ag} {v:Value} (h:bY w l v):bY w' l v:=by
 rcases h with h|⟨b,off,cap,arr,e,fz,rfl,h2,h3,h4,h5⟩
 . exact .inl h
 . by_cases h0:l=[]
   . subst h0;exact .inl ⟨rfl,_,_,rfl⟩
   . refine .inr ⟨b,off,cap,arr,e,fz,rfl,?_,h3,h4,h5⟩;rw[hb.same b fun eb=>?_]
     . exact h2
     . subst eb;exact hb.bare arr e fz h2 _ _ _ (h5 0 (AZ.2 h0)).1
theorem fa.box {w w':World} {b0:Nat} (hb:gC b0 w w') {l:List aa} {v:Value} (h:fa w l v):fa w' l v:=by
 rcases h with h|⟨b,off,cap,arr,e,fz,rfl,h2,h3,h4,h5⟩
 . exact .inl h
 . by_cases h0:l=[]
   . subst h0;exact .inl ⟨rfl,_,_,rfl⟩
   . refine .inr ⟨b,off,cap,arr,e,fz,rfl,?_,h3,h4,fun i hi=>by obtain⟨u,k1,k2⟩:=h5 i hi;exact⟨u,k1,k2.box hb⟩⟩;rw[hb.same b fun eb=>?_]
     . exact h2
     . subst eb;obtain⟨u,k1,_⟩:=h5 0 (AZ.2 h0);exact hb.bare arr e fz h2 _ _ _ (k1 0 (by omega))
theorem gj.box {w w':World} {b0:Nat} (hb:gC b0 w w') {u:Value} {m:ay} (h:gj w u m):gj w' u m:=by
 obtain⟨vc,vk,vd,h1,h2,h3,h4⟩:=h;exact⟨vc,vk,vd,h1,h2.box hb,h3.box hb,h4.box hb⟩
theorem cy.box {w w':World} {n b bk ba bd bs bv b0:Nat} {G:aT} (h:cy w n b bk ba bd bs bv G) (hb:gC b0 w w') (h0:b0<n):cy w' n b bk ba bd bs bv G:=by
 have hl:=h.low;simp only[Aj,Ar]at hl;have ne:∀j,n<=j->w'.heap[j]? =w.heap[j]? :=fun j hj=>hb.same j (by omega)
 exact⟨dT h.c0 (ne _ (hl _ (.inl rfl))),dT h.c1 (ne _ (hl _ (.inl rfl))),dT h.c2 (ne _ (hl _ (.inl rfl))),dT h.c3 (ne _ (hl _ (.inl rfl))),dT h.cv (ne _ (hl _ (.inr (.inl rfl)))),
  h.gF.same (ne _ (hl _ (.inr (.inr (.inl rfl))))),h.ma.same (ne _ (hl _ (.inr (.inr (.inr (.inl rfl)))))),h.md.same (ne _ (hl _ (.inr (.inr (.inr (.inr (.inl rfl))))))),h.mv.same (ne _ (hl _ (.inr (.inr (.inr (.inr (.inr (.inl rfl)))))))),
  fun x hx=>(h.mi x hx).same (ne _ (hl _ (.inr (.inr (.inr (.inr (.inr (.inr ⟨x,hx,rfl⟩)))))))),h.nd,h.low,fun x hx=>by obtain⟨v,k1,k2⟩:=h.ev x hx;exact⟨v,k1,k2.box hb⟩⟩
theorem qe {w:World} {b o:Nat} {arr:Array Value} {ty:TypeId} {fz:Nat×Nat} (h:w.heap[b]? =some (.cells arr ty fz)) (v:Value):(w.setCell ⟨b,o,none⟩ v).heap[b]? =some (.cells (arr.setIfInBounds o v) ty fz):=by
 have h4:=(Ac.1 h).2;simp only[World.setCell,Ds,h];simp
theorem xw {w:World} {b o:Nat} {arr:Array Value} {ty:TypeId} (h:w.heap[b]? =some (.cells arr ty (0,0))):w.frozen? ⟨b,o,none⟩=false:=by simp[World.frozen?,h]
theorem IL {w:World} {b:Nat} (h:w.heap[b]? =some (.cells #[.slice none 0 0, .slice none 0 0, .slice none 0 0] 45 (0,0))) (x y z:Value):∃W1 W2 W3,w.setCell ⟨b,0,none⟩ x=W1/\W1.setCell ⟨b,1,none⟩ y=W2/\W2.setCell ⟨b,2,none⟩ z=W3/\
   w.cell? ⟨b,0,none⟩=some (.slice none 0 0)/\w.frozen? ⟨b,0,none⟩=false/\W1.cell? ⟨b,1,none⟩=some (.slice none 0 0)/\W1.frozen? ⟨b,1,none⟩=false/\W2.cell? ⟨b,2,none⟩=some (.slice none 0 0)/\W2.frozen? ⟨b,2,none⟩=false/\
   W3.cell? ⟨b,0,none⟩=some x/\W3.cell? ⟨b,1,none⟩=some y/\W3.cell? ⟨b,2,none⟩=some z/\gC b w W3/\ ∀B,B<=b->Below B w W3:=by
 have h1:=qe (o:=0) h x;have h2:=qe (o:=1) h1 y;have h3:=qe (o:=2) h2 z;refine⟨_,_,_,rfl,rfl,rfl,kE h,xw h,kE h1,xw h1,kE h2,xw h2,kE h3,kE h3,kE h3,⟨fun i hi=>?_,fun arr e fz ha i k q=>?_⟩,fun B hB=>?_⟩
 . rw[Below.heap_setCell _ _ _ _ hi,Below.heap_setCell _ _ _ _ hi,Below.heap_setCell _ _ _ _ hi]
 . rw[h]at ha
   cases ha;match i with
   |0|1|2=>intro e;cases e
   |_+3=>intro e;cases e
 . exact(((Below.refl B w).setCell hB x).setCell hB y).setCell hB z
theorem IN {w:World} {b:Nat} {x y z:Value} (h0:w.cell? ⟨b,0,none⟩=some x) (h1:w.cell? ⟨b,1,none⟩=some y) (h2:w.cell? ⟨b,2,none⟩=some z):(loadVar 45 ⟨b,0,none⟩).run Tryz.prog w= .ok (.agg #[x,y,z]) w:=by
 have h:w.rangeAt b 0 [x,y,z]:=fun j v hj=>by
  match j with
  |0=>cases hj;exact h0
  |1=>cases hj;exact h1
  |2=>cases hj;exact h2
  |_+3=>cases hj
 exact run_loadVar_mid w b 0 45 [x,y,z] _ h Tryz.underlying45 rfl (by kernel_rfl)
theorem Kg {fn:Func} {s t:Tmp} {ty:TypeId} (h:fn.results=#[.tmp s, .cell t ty]) {tmps:Array Value} {w:World} {a:Addr} {v:Value} (hp:tmps.getD t undef= .pointer (some a)) (hl:(loadVar ty a).run Tryz.prog w= .ok v w):(results fn tmps).run Tryz.prog w= .ok (.tuple #[tmps.getD s undef,v]) w:=by
 have hp':tmps[t]?.getD undef= .pointer (some a):=by simpa using hp
 simp[results,h,asAddr,hp',hl]
theorem cy.mono {w:World} {n k b bk ba bd bs bv:Nat} {G:aT} (h:cy w n b bk ba bd bs bv G) (hk:k<=n):cy w k b bk ba bd bs bv G:={h with low:=fun j hj=>Aq hk (h.low j hj)}
theorem Tryz.fold {l:List aa} {v:Value} {w:World} (hv:fa w l v) (hl:qF l):Calls Tryz.prog 16 #[v] w fun e w'=>∃u,e= .returned u/\gj w' u (ey l)/\Below w.heap.size w w':=by
 letI:Inhabited aF:=⟨⟨True,#[]⟩⟩
 have h:=nH bH.ok Ig (fn:=Tryz.f16) (hfn:=by kernel_rfl) (hb:=rfl) (y:=l) hl (args:=[v]) (w:=w) (PL.cons (H5 (uJ l) (vE hv)) PL.nil) (cV.oC rfl _);refine Calls.mono h ?_;rintro e w' ⟨u,rfl,hu,hb,_⟩;exact⟨u,rfl,Qi hu,hb⟩
theorem Tt {l:List aa} {v:Value} {w:World} (hv:fa w l v) (hlt:qF l) (hl30:l.length<=30):
  Calls Tryz.prog 28 #[v] w fun e w'=>∃b bk ba bd bs bv G u,e= .returned (.tuple #[.pointer (some ⟨b,0,none⟩),u])/\cy w' w.heap.size b bk ba bd bs bv G/\bT G (ey l)/\gj w' u (ey l)/\Below w.heap.size w w':=by
 obtain⟨sa,sc,rfl⟩:=hv.one;obtain⟨W0,hW0⟩:∃W0,w.alloc (.cells #[.slice none 0 0, .slice none 0 0, .slice none 0 0] 45)=W0:=⟨_,rfl⟩;have hbW0:Below w.heap.size w W0:=by rw[<-hW0];exact(Below.refl _ _).alloc (Ah _) _
 have sW0:W0.heap.size=w.heap.size+1:=by rw[<-hW0];exact Da _
 have hbx:W0.heap[w.heap.size]? =some (.cells #[.slice none 0 0, .slice none 0 0, .slice none 0 0] 45 (0,0)):=by rw[<-hW0];exact World.alloc_heap_new _ _
 have hv0:=hv.cells (dU hbW0);have hnew:=Ju W0;go_enter Tryz.func28,Tryz.ntmps28
 go_wp2_with (go_at_call 14;refine hnew.mono ?_;rintro e w2 ⟨b,bk,ba,bd,bs,bv,rfl,hO,hb2⟩)
 have hv2:=hv0.cells (dU hb2);go_loopw [5] (fun i wr=>∃(k:Nat) (G:aT),k<=l.length/\i= .int .i64 k/\fa wr l (.slice sa l.length sc)/\cy wr W0.heap.size b bk ba bd bs bv G/\bT G (ey (l.take k))/\Below W0.heap.size W0 wr)
  (fun i _=>l.length - (intOf i).toNat)
 case atStart=>exact⟨0,_,Av _,rfl,hv2,hO,JX,hb2⟩
 case round=>
  obtain⟨k,G,hk,rfl,hvr,hOr,hgr,hbr⟩:=hrel;by_cases hlt2:k<l.length
  . obtain⟨bb,off,cap,arr,ty,fz,hsl,hbb,hcap,hsz,hcells⟩:=hvr.resolve_left (fun h=>by rw[h.1]at hlt2;exact absurd hlt2 (A9 _));simp only[Value.slice.injEq]at hsl;obtain⟨rfl, -,rfl⟩:=hsl;obtain⟨u,hcu,hdu⟩:=hcells k hlt2;have hld:=S3 hbb hcu;have hlk:=hlt.2 l[k] (AF hlt2);obtain⟨hsm,hov⟩:= @rG ⟨⟨True,#[]⟩⟩ _ hlk;have hok:fT (ey (l.take k)):= @dD.ok ⟨⟨True,#[]⟩⟩ _ _ (@qg ⟨⟨True,#[]⟩⟩ l hlt.2 k hk) (by omega);have happ:=Tryz.apply hOr hgr hbr.size (e:=l[k]) (u:=fZ l[k] u) ⟨u,rfl,hdu⟩ hsm (by omega) hok;obtain⟨SZ,mm,hSZ,hsz2,hm⟩:=rT;obtain⟨cs,hcs⟩:∃cs:Array Value,(cD l[k] u).toArray=cs:=⟨_,rfl⟩;have hcz:cs.size=mm:=by rw[<-hcs];exact(show(19:Nat)=mm from Eq.symm hm)
    rw[show fZ l[k] u= .agg cs from by rw[<-hcs];rfl]at happ;rw[hcs,<-(hm:mm=19)]at hld;clear hbx;go_wp2_with (go_at_call 15;refine happ.mono ?_;rintro e wn ⟨rfl,hbn,hcn,G',hO',hg'⟩)
    exact⟨⟨k+1,G',hlt2,by go_num,hvr.cells hcn,hO',by rw[@Mb ⟨⟨True,#[]⟩⟩ l k hlt2];exact hg',hbr.trans hbn⟩,by simp[intOf];omega⟩
  . have hkl:k=l.length:=by omega
    subst hkl;rw[Bg]at hgr;have hfold:=Tryz.fold hvr hlt;have hbxr:=(hbr.block _ (Ac.1 hbx).1).trans hbx;go_wp2_with (go_at_call 16;refine hfold.mono ?_;rintro e w3 ⟨u,rfl,⟨vc,vk,vd,rfl,hm1,hm2,hm3⟩,hb3⟩;have hbx3:=(hb3.block _ (Ac.1 hbxr).1).trans hbxr;obtain⟨ca,na,pa,rfl⟩:=hm1.one;obtain⟨ck,pk,rfl⟩:=hm2.one;obtain⟨cd,nd,pd,rfl⟩:=hm3.one;obtain⟨W1,W2,W3,e1,e2,e3,c0,f0,c1,f1,c2,f2,g0,g1,g2,hbb,hbel⟩:=IL hbx3 (.slice ca na pa) (.slice ck (ey l).kept.length pk) (.slice cd nd pd);clear hbx3)
    refine bodyPost_ret (Kg rfl rfl (IN g0 g1 g2)) rfl ?_;have hm:gj W3 (.agg #[.slice ca na pa, .slice ck (ey l).kept.length pk, .slice cd nd pd]) (ey l):=⟨_,_,_,rfl,hm1.box hbb,hm2.box hbb,hm3.box hbb⟩;have hO3:=(hOr.below hb3).box hbb (show w.heap.size<W0.heap.size by omega);refine⟨b,bk,ba,bd,bs,bv,G,_,rfl,hO3.mono (by omega),hgr,hm,?_⟩;have h1:=Aq hbW0.size hbr.size;exact((hbW0.trans (hbr.mono hbW0.size)).trans (hb3.mono h1)).trans (hbel _ (Ah _))
def hZ (w:World) (cs:List (List ag)) (v:Value):Prop:=(cs=[]/\ ∃a c,v= .slice a 0 c)\/ ∃b off cap arr e fz,v= .slice (some ⟨b,off,none⟩) cs.length cap/\w.heap[b]? =some (.cells arr e fz)/\cs.length<=cap/\off+cs.length*13<=arr.size/\
 ∀i (h:i<cs.length),∃u,(∀j,j<13->arr[off+i*13+j]? =(jk u)[j]?)/\bY w cs[i] u
theorem hZ.cells {w w':World} (hc:iG w w') {l:List (List ag)} {v:Value} (h:hZ w l v):hZ w' l v:=by
 rcases h with h|⟨b,off,cap,arr,e,fz,h1,h2,h3,h5,h4⟩
 . exact .inl h
 . exact .inr ⟨b,off,cap,arr,e,fz,h1,hc _ _ _ _ h2,h3,h5,fun i hi=>by obtain⟨u,k1,k2⟩:=h4 i hi;exact⟨u,k1,k2.cells hc⟩⟩
theorem hZ.one {w:World} {l:List (List ag)} {v:Value} (h:hZ w l v):∃a c,v= .slice a l.length c:=by
 rcases h with⟨rfl,a,c,rfl⟩|⟨b,off,cap,arr,e,fz,rfl,_⟩<;>exact⟨_,_,rfl⟩
theorem QU [Inhabited aF] {w:World} {p:Nat->Prop} {g:Bool} {l:List (List ag)} {v:Value} (h:Rd w p g (ng (l.map kS)) v):hZ w l v:=by
 unfold ng at h;generalize hL:l.map kS=L at h
 have hlen:L.length=l.length:=by rw[<-hL];simp
 cases h with
 |gE h0=>exact .inl ⟨AQ.1 (by omega),_,_,rfl⟩
 |bL h h0 a c=>exact .inl ⟨AQ.1 (by omega),_,_,rfl⟩
 |aJ b off cap arr e fz sz u hp hb hs hl hn hc h1 h2=>
  by_cases h0:l=[]
  . subst h0;exact .inl ⟨rfl,_,_,by rw[hlen];rfl⟩
  . have hx:∀i (hi:i<l.length),L[i]? =some (kS l[i]):=fun i hi=>by rw[<-hL,Au,Ag hi];rfl
    have hsz:sz=13:=(hn 0 _ (hx 0 (AZ.2 h0))).symm;subst hsz;refine .inr ⟨b,off,cap,arr,e,fz,by rw[hlen],hb,by rw[<-hlen];exact hc,by rw[<-hlen];exact hl,fun i hi=>?_⟩;have key:∀(j:Nat) s,(dB.enc (kS l[i]))[j]? =some s->arr[off+i*13+j]? =some (u i j)/\Rd w p g s (u i j):=fun j s hs=>⟨h1 i _ j s (hx i hi) hs,h2 i _ j s (hx i hi) hs⟩
    refine⟨u i 12,fun j hj=>?_,sq (key 12 _ rfl).2⟩;match j,hj with
    |0,_|9,_|10,_|11,_=>rw[(key _ _ rfl).1,ij (key _ _ rfl).2];rfl
    |1,_|2,_|3,_|4,_=>rw[(key _ _ rfl).1,mY (key _ _ rfl).2];rfl
    |5,_|6,_|7,_|8,_=>rw[(key _ _ rfl).1,oQ (key _ _ rfl).2];rfl
    |12,_=>rw[(key _ _ rfl).1];rfl
    |_+13,h=>exact absurd h (by omega)
theorem G1 {m:ay} {cs:List (List ag)} {i:Nat} (h:i<cs.length):dI m 0 (cs.take (i+1))=kT (dI m 0 (cs.take i)) i cs[i]:=by
 have key:∀(cs:List (List ag)) (m:ay) (k i:Nat) (h:i<cs.length),dI m k (cs.take (i+1))=kT (dI m k (cs.take i)) (k+i) cs[i]:=by
  intro cs;induction cs with
  |nil=>intro m k i h;exact absurd h (A9 _)
  | cons c cs ih=>
   intro m k i h
   cases i with
   |zero=>rfl
   |succ i=>
    have hi:i<cs.length:=by simpa using h
    have:=ih (kT m k c) (k+1) i hi;rw[show k+1+i=k+(i+1) by omega]at this;exact this
 have:=key cs m 0 i h;rwa [Ay]at this
theorem xM [Inhabited aF] {m:ay} {cs:List (List ag)} {n:Nat} (hb:dD m n) (h0:getM m.ctx 63 1048576=0) (hcs:∀c∈cs,mR c) (h1:m.kept.length+cs.length<=2048):∀i,i<=cs.length->dD (dI m 0 (cs.take i)) (n+i)/\getM (dI m 0 (cs.take i)).ctx 63 1048576=(i:Int)/\(dI m 0 (cs.take i)).kept.length=m.kept.length+i
 |0,_=>⟨hb,h0,rfl⟩
 |i+1,hi=>by
  obtain⟨k1,k2,k3⟩:=xM hb h0 hcs h1 i (by omega);have hc:=hcs cs[i] (AF (by omega));have ha:=G0 (m:=dI m 0 (cs.take i)) hc (by omega) k2 (by omega);have hb2:=Cj (e:=iO i cs[i]) k1 (show cs[i].length<=100 by have:=hc.le;omega);rw[ha]at hb2;rw[G1 (by omega)];exact⟨hb2,QS,by rw[QT,k3];omega⟩
end Go.Proofs
