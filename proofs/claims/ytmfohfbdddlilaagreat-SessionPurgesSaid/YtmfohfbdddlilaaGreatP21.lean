/- Part 21: an evaluator, proved sound, and its use at this seat; no condition. -/
import Derived.Deep.RegionHeld3
import Derived.WalkKit
import Derived.LoopTactic
import Derived.ProofKit
import Derived.OpenShut
import Derived.Test.YtmfohfbdddlilaaGreatP3
import Derived.Test.YtmfohfbdddlilaaGreatP17
import Derived.Test.YtmfohfbdddlilaaGreatP20
set_option linter.unusedSimpArgs false
set_option linter.unusedVariables false
set_option linter.unusedSectionVars false
set_option linter.deprecated false
set_option maxRecDepth 100000
set_option maxHeartbeats 40000000
namespace Go.Proofs
open Go Go.Am Go.RowKit Go.Sy Go.Gm Go.Maps Go.Sort Go.Shelf
theorem Ve (k:Nat) (c:List aj) (v:Value):gS (jP k c) v=(.agg #[.int .i64 63, .int .i64 1048576, .int .i64 ((k:Int)+1), .int .i64 4398046511104, .int .i64 k, .int .i64 63, .int .i64 2, .string ⟨#[]⟩, .string ⟨#[]⟩, .string ⟨#[]⟩, .string ⟨#[]⟩, .bool false, .bool false, .bool false, .bool false, .int .i64 0, .int .i64 0, .int .i64 0,v]):=rfl
theorem OY {k:Nat} (h:k<1000):wrap64 ((k:Int)+1)=(k:Int)+1/\IntKind.i64.wrap ((k:Int)+1)=(k:Int)+1:=⟨IntWalk.wrap64_in _ (by omega),IntWalk.i64_in _ (by omega)⟩
theorem Tryz.done {w:World} {n b bk ba bd bs bv N:Nat} {G:bn} {m:aJ} {cs:List (List aj)} {v:Value} (hO:cT w n b bk ba bd bs bv G) (hg:cq G m) (hn:n<=w.heap.size) (hv:ja w cs v) (hb:ed m N) (hN:N<=40) (h0:getM m.ctx 63 1048576=0) (hcs:∀c∈cs,py c) (hl:cs.length<=950):
  Calls Tryz.prog 31 #[.pointer (some ⟨b,0,none⟩),v] w fun e w'=>e= .returned (.bool true)/\Below n w w'/\jh w w'/\ ∃G',cT w' n b bk ba bd bs bv G'/\cq G' (dX m 0 cs):=by
 have hkl:=hb.kept;have hst:= @Ce ⟨⟨True,#[]⟩⟩ m cs N hb h0 hcs (by omega);obtain⟨sa,sc,rfl⟩:=hv.one;go_enter Tryz.func31,Tryz.ntmps31
 go_wp2;go_loopw [5] (fun i wr=>∃(k:Nat) (G:bn),k<=cs.length/\i= .int .i64 k/\ja wr cs (.slice sa cs.length sc)/\cT wr n b bk ba bd bs bv G/\cq G (dX m 0 (cs.take k))/\Below n w wr/\jh w wr)
  (fun i _=>cs.length - (intOf i).toNat)
 case atStart=>exact⟨0,_,Aw _,rfl,hv,hO,hg,(Below.refl _ _).mono hn,fun _ _ _ _ h=>h⟩
 case round=>
  obtain⟨k,G,hk,rfl,hvr,hOr,hgr,hbr,hcr⟩:=hrel;by_cases hlt2:k<cs.length
  . obtain⟨bb,off,cap,arr,ty,fz,hsl,hbb,hcap,hsz,hcells⟩:=hvr.resolve_left (fun h=>by rw[h.1]at hlt2;exact absurd hlt2 (Be _));simp only[Value.slice.injEq]at hsl;obtain⟨rfl, -,rfl⟩:=hsl;obtain⟨u,hcu,hdu⟩:=hcells k hlt2;obtain⟨ua,un,uc,rfl⟩:=hdu.one;obtain⟨k1,k2,k3⟩:=hst k hk;have hc:=hcs cs[k] (AJ hlt2);have ha:= @La ⟨⟨True,#[]⟩⟩ (dX m 0 (cs.take k)) k cs[k] hc (by omega) k2 (by omega);have hok:gL (dX m 0 (cs.take k)):= @ed.ok ⟨⟨True,#[]⟩⟩ _ _ k1 (by omega);have happ:=Tryz.apply (w:=wr.drew) (hOr.below (Below.refl _ wr).drew) hgr (Aq hn hbr.size) (e:=jP k cs[k]) (u:=gS (jP k cs[k]) (.slice ua un uc)) ⟨_,rfl,hdu.cells (eu (Below.refl _ wr).drew)⟩ ⟨show 0<=1000000 from Aw _,show 0<=1000000 from Aw _⟩ (by have:=hc.le;show cs[k].length<=100000;omega) hok;rw[ha]at happ;obtain⟨q,hq⟩:∃q,off+k*13=q:=⟨_,rfl⟩;have hS:∀W:World,W.heap[bb]? =some (.cells arr ty fz)->W.cell? ⟨bb,q,none⟩=some (.int .i64 2)/\W.cell? ⟨bb,q+1,none⟩=some (.string ⟨#[]⟩)/\W.cell? ⟨bb,q+2,none⟩=some (.string ⟨#[]⟩)/\W.cell? ⟨bb,q+3,none⟩=some (.string ⟨#[]⟩)/\W.cell? ⟨bb,q+4,none⟩=some (.string ⟨#[]⟩)/\W.cell? ⟨bb,q+5,none⟩=some (.bool false)/\W.cell? ⟨bb,q+6,none⟩=some (.bool false)/\W.cell? ⟨bb,q+7,none⟩=some (.bool false)/\W.cell? ⟨bb,q+8,none⟩=some (.bool false)/\W.cell? ⟨bb,q+9,none⟩=some (.int .i64 0)/\W.cell? ⟨bb,q+10,none⟩=some (.int .i64 0)/\W.cell? ⟨bb,q+11,none⟩=some (.int .i64 0)/\W.cell? ⟨bb,q+12,none⟩=some (.slice ua un uc):=fun W hW=>by
     have hc:∀j,j<13->W.cell? ⟨bb,q+j,none⟩=(kr (.slice ua un uc))[j]? :=fun j hj=>by rw[ji hW,<-hq];exact hcu j hj
     exact⟨hc 0 (by omega),hc 1 (by omega),hc 2 (by omega),hc 3 (by omega),hc 4 (by omega),hc 5 (by omega),hc 6 (by omega),hc 7 (by omega),hc 8 (by omega),hc 9 (by omega),hc 10 (by omega),hc 11 (by omega),hc 12 (by omega)⟩
    have hcell:∀j,j<13->wr.cell? ⟨bb,q+j,none⟩=(kr (.slice ua un uc))[j]? :=fun j hj=>by rw[ji hbb,<-hq];exact hcu j hj
    have c0:=hcell 0 (by omega);have c1:=hcell 1 (by omega);have c2:=hcell 2 (by omega);have c3:=hcell 3 (by omega);have c4:=hcell 4 (by omega);have c5:=hcell 5 (by omega);have c6:=hcell 6 (by omega);have c7:=hcell 7 (by omega);have c8:=hcell 8 (by omega);have c9:=hcell 9 (by omega);have c10:=hcell 10 (by omega);have c11:=hcell 11 (by omega);have c12:=hcell 12 (by omega);simp only[kr,AE,AZ,Bw]at c0 c1 c2 c3 c4 c5 c6 c7 c8 c9 c10 c11 c12;have hvx:∀wn,jh wr.drew wn->ja wn cs (.slice (some ⟨bb,off,none⟩) cs.length sc):=fun wn hc=>hvr.cells hc
    clear hcell hcu hvr hv;rw[Ve]at happ;obtain⟨hw1,hw2⟩:=OY (k:=k) (by omega);have i0:(0:Int)<=(k:Int):=EN k;have i1:(k:Int)<(cs.length:Int):=Int.ofNat_lt.2 hlt2;have i2:(k:Int)<=(cs.length:Int):=Int.le_of_lt i1;have hq':=hq;clear hst ha hc k1 k2 k3 hcs hb hok hdu hcap hsz hcells hO hg h0 hl hN hkl;go_wp2;go_region_held3 (fun w'=>w'.cell? ⟨bb,q,none⟩=some (.int .i64 2)/\w'.cell? ⟨bb,q+1,none⟩=some (.string ⟨#[]⟩)/\w'.cell? ⟨bb,q+2,none⟩=some (.string ⟨#[]⟩)/\w'.cell? ⟨bb,q+3,none⟩=some (.string ⟨#[]⟩)/\w'.cell? ⟨bb,q+4,none⟩=some (.string ⟨#[]⟩)/\w'.cell? ⟨bb,q+5,none⟩=some (.bool false)/\w'.cell? ⟨bb,q+6,none⟩=some (.bool false)/\w'.cell? ⟨bb,q+7,none⟩=some (.bool false)/\w'.cell? ⟨bb,q+8,none⟩=some (.bool false)/\w'.cell? ⟨bb,q+9,none⟩=some (.int .i64 0)/\w'.cell? ⟨bb,q+10,none⟩=some (.int .i64 0)/\w'.cell? ⟨bb,q+11,none⟩=some (.int .i64 0)/\w'.cell? ⟨bb,q+12,none⟩=some (.slice ua un uc)) (simp[*]) (first|(go_at_call 15;refine happ.mono ?_;rintro e wn ⟨rfl,hbn,hcn,G',hO',hg'⟩;obtain⟨z0,z1,z2,z3,z4,z5,z6,z7,z8,z9,z10,z11,z12⟩:=hS wn (hcn _ _ _ _ hbb)))
    go_wp2;exact⟨⟨k+1,G',hlt2,by go_num,hvx wn hcn,hO',by rw[Lb hlt2];exact hg',hbr.drew.trans hbn,fun c x y z h=>hcn c x y z (hcr c x y z h)⟩,by simp[intOf];omega⟩
  . have hks:k=cs.length:=by omega
    subst hks;go_wp2;go_ret;rw[Bp]at hgr;exact⟨rfl,hbr,hcr,G,hOr,hgr⟩
section
section
variable [Inhabited aL]
def K3:aN:={Y:=Nat×aJ,pre:=fun y=>ch y.1 y.2,args:=fun y=>[.wp ⟨y.1,0,none⟩],res:=fun y=>ec (dF y.2)}
def Vx (m:aJ):aI:=let l:=fC m;{α:=Nat,ok:=fun i=>i<=l.length,μ:=fun i=>l.length - i,aX:=[0,2],aS:=fun i=>[(3, .own 0),(4,cG l),(5,i64 i)],bw:=fun i=>[(0,om ((l.take i).map ae.item))]}
theorem T2 (hdr:¬(default:aL).dr):CO rK K3:=bZ (cfg:=fun(y:Nat×aJ)=>cz yu (cD rK 4 (Vx y.2))) bC (fun _=>rfl) (fun _=>Cz hdr) (n:=600) (by
 intro (y:Nat×aJ) (hm:ch y.1 y.2);obtain⟨b,m⟩:=y;have hm:ch b m:=hm;have hwl:=wA hm.ok
 (conv=>whnf)
 refine⟨(b,m),?_⟩
 repeat ((conv=>whnf);first|refine⟨rfl,?_⟩|refine⟨trivial,?_⟩)
 refine⟨hm,?_⟩
 (conv=>whnf)
 refine⟨⟨(0:Nat),Aw _,?_⟩,?_⟩
 . repeat' (first|exact trivial|exact rfl|((conv=>whnf);first|(apply aK<;>intro)|apply And.intro))
 intro (x:Nat) hx;have hx:x<=(fC m).length:=hx
 (conv=>whnf)
 refine aK (fun hlt=>?_) fun hge=>?_
 . have hlt':x<(fC m).length:=cB hlt;have hf:=wY ae.item hlt';have hz:(((fC m).take x).map ae.item).length+1<=60000:=by simp;omega
   (conv=>whnf)
   refine au.2 ⟨_,cO hlt',?_⟩
   (conv=>whnf)
   refine au.2 ⟨_,cO hlt',?_⟩
   (conv=>whnf)
   refine⟨(fC m)[x].item,rfl,?_⟩
   (conv=>whnf)
   refine ag.2 ⟨vL _ hz,?_⟩
   (conv=>whnf)
   refine ag.2 ⟨cu x (by omega),?_⟩
   (conv=>whnf)
   refine⟨(x+1:Nat),hlt',by show(fC m).length - (x+1)<(fC m).length - x;omega,?_⟩
   repeat' (first|exact trivial|exact rfl|((conv=>whnf);first|(apply aK<;>intro)|apply And.intro))
   all_goals ((conv=>whnf);rw[hf])
 . have hge':(fC m).length<=x:=gr hge
   (conv=>whnf)
   refine⟨by rw[Ay hge'];rfl,?_⟩
   repeat' (first|exact trivial|exact rfl|((conv=>whnf);first|(apply aK<;>intro)|apply And.intro)))
noncomputable def NB (f:FuncId):Option aN:=bif Nat.beq f rK then some K3 else bif Nat.beq f ni then some xK else bif Nat.beq f pj then some yJ else vh f
theorem Vl (hdr:¬(default:aL).dr) (ha:CO pj yJ):∀f C,NB f=some C->CO f C:=bR (T2 hdr) (bR (CG hdr) (bR ha (xo hdr)))
end
end
theorem Tryz.free {m:aJ} {u:Value} {w:World} (hok:gL m) (h:gV w u m):Calls Tryz.prog 30 #[u] w fun e w'=>e= .returned (.bool (mX m))/\Below w.heap.size w w':=
 vb (C:=fun _=>NN) (hfn:=rfl) (hb:=rfl) (args:=[u]) (fun I=> @Zi I) (fun I=>by letI:=I;exact⟨m,hok,PL.cons (FZ (Wf m) (Y6 h)) PL.nil,rfl⟩)
theorem Yc [Inhabited aL] {w:World} {p:Nat->Prop} {g:Bool} {s t:SV} {v:Value} (h:Rd w p g (.bG [s,t]) v):∃x y,v= .tuple #[x,y]/\Rd w p g s x/\Rd w p g t y:=by
 cases h with
 | @bG cs vs h1 h2=>
  obtain⟨l⟩:=vs;match l,h1 with
  |[x,y],_=>exact⟨x,y,rfl,h2 0 _ _ rfl rfl,h2 1 _ _ rfl rfl⟩
theorem ZP (w:World) (x y z:Value):∃W1 W2 W3,(w.alloc (.cells #[.slice none 0 0, .slice none 0 0, .slice none 0 0] 45)).setCell ⟨w.heap.size,0,none⟩ x=W1/\W1.setCell ⟨w.heap.size,1,none⟩ y=W2/\W2.setCell ⟨w.heap.size,2,none⟩ z=W3/\
  (w.alloc (.cells #[.slice none 0 0, .slice none 0 0, .slice none 0 0] 45)).cell? ⟨w.heap.size,0,none⟩=some (.slice none 0 0)/\(w.alloc (.cells #[.slice none 0 0, .slice none 0 0, .slice none 0 0] 45)).frozen? ⟨w.heap.size,0,none⟩=false/\W1.cell? ⟨w.heap.size,1,none⟩=some (.slice none 0 0)/\W1.frozen? ⟨w.heap.size,1,none⟩=false/\W2.cell? ⟨w.heap.size,2,none⟩=some (.slice none 0 0)/\W2.frozen? ⟨w.heap.size,2,none⟩=false/\
  W3.heap[w.heap.size]? =some (.cells #[x,y,z] 45 (0,0))/\Below w.heap.size w W3:=by
 have hb:(w.alloc (.cells #[.slice none 0 0, .slice none 0 0, .slice none 0 0] 45)).heap[w.heap.size]? =some (.cells #[.slice none 0 0, .slice none 0 0, .slice none 0 0] 45 (0,0)):=World.alloc_heap_new _ _;obtain⟨W1,W2,W3,e1,e2,e3,c0,f0,c1,f1,c2,f2,g0,g1,g2,hbb,hbel⟩:=Nv hb x y z;have h1:=rT (o:=0) hb x;rw[e1]at h1;have h2:=rT (o:=1) h1 y;rw[e2]at h2;have h3:=rT (o:=2) h2 z;rw[e3]at h3;exact⟨W1,W2,W3,e1,e2,e3,c0,f0,c1,f1,c2,f2,h3,((Below.refl _ _).alloc (Ai _) _).trans (hbel _ (Ai _))⟩
theorem UP [Inhabited aL] {w:World} {tmps:Array Value} {ts:Fr} {t b:Nat} {m:aJ} {vc vk vd:Value} {fz:Nat×Nat} (h1:tmps[t]? =some (.pointer (some ⟨b,0,none⟩))) (hb:w.heap[b]? =some (.cells #[vc,vk,vd] 45 fz))
  (hc:cF w m.ctx vc) (hk:ff w m.kept vk) (hd:cF w m.dead vd) (h:fa Tryz.tab w tmps ts):fa Tryz.tab w tmps ((t, .cH m.enc 0)::ts):=by
 have hlt:=(Ae.1 hb).1;refine h.put (av:= .ptr b 0) h1 (fun E hE=>by simp[af,hE b hlt]) ?_;have hg:(bT Tryz.tab w).get b=some (.cells [cQ w.heap.size vc,cQ w.heap.size vk,cQ w.heap.size vd] 45 ((Tryz.tab.siz.get 45).getD 1) false .ro):=by
  rw[uE];unfold kz;rw[hb];rfl
 refine .cH b 0 _ 45 _ false .ro (fun j=>([cQ w.heap.size vc,cQ w.heap.size vk,cQ w.heap.size vd]:List AV)[j]?.getD .bo) hg (Ai 3) (fun j v hj=>?_) (fun j v hj=>?_)
 all_goals
  have hj3:j<3:=(Ab.1 hj).1;match j,hj3 with
  |0,_=>cases hj;first|rfl|exact qN (uj _) (uL hc)
  |1,_=>cases hj;first|rfl|exact qN (uu _) (uY hk)
  |2,_=>cases hj;first|rfl|exact qN (uj _) (uL hd)
theorem VN {l:List ae} {e x:ae} (h:x∈fw l e):x∈l\/x=e:=by
 unfold fw at h;rcases A9.1 h with h|h
 . exact .inl (Du h)
 . rcases Aj.1 h with h|h
   . exact .inr h
   . exact .inl (D8 h)
theorem Lc:∀(cs:List (List aj)) (m:aJ) (k:Nat),(∀e∈m.kept,e.over.length<=100000)->(∀c∈cs,py c)->∀e∈(dX m k cs).kept,e.over.length<=100000
 |[],_,_,h,_=>h
 |c::cs,m,k,h,hc=>Lc cs (mr m k c) (k+1) (fun e he=>by
  rcases VN (l:=m.kept) (e:=jP k c) he with h1|rfl
  . exact h e h1
  . have:=(hc c An).le;show c.length<=100000
    omega) (fun d hd=>hc d (Ao _ hd))
section
def pH (c:az):Bool:=decide (c.rules.length<=20)&&c.rules.all fun s=>decide (s.length<=300)
def je (c:az) (l:List ae):Bool:=pH c&&(bV (Int.ofNat l.length) 30&&l.all iA)
theorem Ka {c:az} (h:¬(c.rules.length<=20/\ ∀s∈c.rules,s.length<=300)):pH c=false:=by
 rw[Av];intro e;unfold pH at e;rw[Aa,Ad,AI]at e;exact h ⟨e.1,fun s hs=>Bo (e.2 s hs)⟩
theorem Kb {c:az} (h:pH c=true):uJ c:=by
 unfold pH at h;rw[Aa,Ad,AI]at h;exact⟨by omega,fun s hs=>by have:=Bo (h.2 s hs);omega⟩
section
variable [Inhabited aL]
noncomputable def tH (f:FuncId):Option aN:=bif Nat.beq f pg then some zZ else cj f
theorem Xq:∀f C,tH f=some C->CO f C:=bR JL iD
def Mi:aN:={Y:=az×List ae,pre:=fun _=>True,args:=fun y=>[.agg (y.1.enc++[cG y.2])],res:=fun y=> .bool (je y.1 y.2)}
def XI (c:az):aI:={α:=Nat,ok:=fun i=>i<=c.rules.length/\ ∀j (h:j<c.rules.length),j<i->c.rules[j].length<=300,μ:=fun i=>c.rules.length - i,aX:=[2,3,4],aS:=fun i=>[(5,i64 i)],bw:=fun _=>[]}
theorem V7:CO Pd Mi:=bZ (cfg:=fun(y:az×List ae)=>cz tH (cD Pc 4 (XI y.1))) bC (fun _=>rfl) (fun _=>Xq) (n:=900) (by
 rintro⟨c,l⟩ -
 (conv=>whnf)
 refine aK (fun h=>?_) fun h20=>?_
 . have h:bI 20 (Int.ofNat c.rules.length)=true:=h;rw[cr,Ad]at h;have h:(20:Int)<(c.rules.length:Int):=h
   (conv=>whnf)
   refine⟨?_,?_⟩
   . show false=je c l
     unfold je;rw[Ka fun h'=>by omega];rfl
   . repeat' (first|exact trivial|exact rfl|((conv=>whnf);first|(apply aK<;>intro)|apply And.intro))
 have hr:c.rules.length<=20:=by
   have h20:bI 20 (Int.ofNat c.rules.length)=false:=h20;rw[cr,Ah]at h20;have h20:¬(20:Int)<(c.rules.length:Int):=h20;omega
 (conv=>whnf)
 refine⟨⟨(0:Nat),⟨Aw _,fun j h hj=>absurd hj (Be _)⟩,?_⟩,?_⟩
 . repeat' (first|exact trivial|exact rfl|((conv=>whnf);first|(apply aK<;>intro)|apply And.intro))
 rintro(x:Nat) ⟨hx,hx2⟩;have hx:x<=c.rules.length:=hx
 (conv=>whnf)
 refine aK (fun hlt=>?_) fun hge=>?_
 . have hlt':x<c.rules.length:=cB hlt
   (conv=>whnf)
   refine au.2 ⟨_,cO hlt',?_⟩
   (conv=>whnf)
   refine aK (fun hs=>?_) fun hs=>?_
   . have hs:=Yn hs
     (conv=>whnf)
     refine⟨?_,?_⟩
     . show false=je c l
       unfold je;rw[Ka fun h'=>hs (h'.2 _ (AJ hlt'))];rfl
     . repeat' (first|exact trivial|exact rfl|((conv=>whnf);first|(apply aK<;>intro)|apply And.intro))
   . have hs:=WR hs
     (conv=>whnf)
     refine ag.2 ⟨cu x (by omega),?_⟩
     (conv=>whnf)
     refine⟨(x+1:Nat),⟨hlt',fun j h hj=>?_⟩,by show c.rules.length - (x+1)<c.rules.length - x;omega,?_⟩
     . by_cases e:j=x
       . subst e;exact hs
       . exact hx2 j h (by omega)
     . repeat' (first|exact trivial|exact rfl|((conv=>whnf);first|(apply aK<;>intro)|apply And.intro))
 . have hge':c.rules.length<=x:=gr hge;have hc:pH c=true:=by
     unfold pH;rw[Bg hr,Bj,AI];intro s hs;obtain⟨j,hj,rfl⟩:=Bn hs;exact Bg (hx2 j hj (by omega))
   (conv=>whnf)
   refine⟨(l,30),?_⟩
   repeat ((conv=>whnf);first|refine⟨rfl,?_⟩|refine⟨trivial,?_⟩)
   refine⟨by show(30:Int)<=1000000;omega,?_⟩
   (conv=>whnf)
   refine⟨?_,?_⟩
   . show(bV (Int.ofNat l.length) 30&&l.all iA)=je c l
     unfold je;rw[hc];rfl
   . repeat' (first|exact trivial|exact rfl|((conv=>whnf);first|(apply aK<;>intro)|apply And.intro)))
end
def dP (w:World) (c:az) (rv:Value):Prop:=Rd w (fun _=>True) true (.ar Bs c.rules aU) rv
abbrev Gt (c:az) (rv:Value):Value:= .agg #[.int .i64 c.aC, .int .i64 c.domain, .int .i64 c.total,rv]
theorem dP.cells {w w':World} {c:az} {rv:Value} (h:dP w c rv) (hc:jh w w'):dP w' c rv:= @WJ ⟨⟨True,#[]⟩⟩ _ _ _ _ hc _ _ h
theorem dP.one {w:World} {c:az} {rv:Value} (h:dP w c rv):∃a k,rv= .slice a c.rules.length k:=by
 unfold dP at h;generalize hs:SV.ar Bs c.rules aU=s at h
 cases h with
 |fN h0=>cases hs;exact⟨none,0,by rw[h0]⟩
 |bX _ h0 a k=>cases hs;exact⟨a,k,by rw[h0]⟩
 |ar b off cap arr e fz sz u hp hb hz hl hn hc h1 h2=>cases hs;exact⟨_,cap,rfl⟩
 |_=>cases hs
theorem Xr {w:World} {c:az} {rv:Value} (h:dP w c rv):Rd w (fun _=>True) true (.agg c.enc) (Gt c rv):=by
 refine .agg rfl fun i s v hs hv=>?_
 have hi:i<4:=(Ab.1 hs).1;unfold az.enc at hs;match i,hi with
 |0,_|1,_|2,_=>cases hs;cases hv;exact .int _ _
 |3,_=>cases hs;cases hv;exact h
theorem ZN {w:World} {c:az} {l:List ae} {rv ev:Value} (h:dP w c rv) (he:ff w l ev):Rd w (fun _=>True) true (.agg (c.enc++[cG l])) (.agg #[.int .i64 c.aC, .int .i64 c.domain, .int .i64 c.total,rv,ev]):=by
 refine .agg rfl fun i s v hs hv=>?_
 have hi:i<5:=(Ab.1 hs).1;unfold az.enc at hs;match i,hi with
 |0,_|1,_|2,_=>cases hs;cases hv;exact .int _ _
 |3,_=>cases hs;cases hv;exact h
 |4,_=>cases hs;cases hv;exact @uY ⟨⟨True,#[]⟩⟩ _ _ _ he
theorem JD (l:List Bs):Flat (.ar Bs l aU):= .ar fun i x j v _ hv=>by
 cases j with
 |zero=>cases hv;exact .str _
 |succ j=>cases hv
theorem Kx (c:az):∀s∈c.enc,Flat s:=by
 intro s hs;simp only[az.enc,Aj,BT,DB]at hs;rcases hs with rfl|rfl|rfl|rfl
 . exact .int _ _
 . exact .int _ _
 . exact .int _ _
 . exact JD _
theorem We (c:az) (l:List ae):∀s∈c.enc++[cG l],Flat s:=by
 intro s hs;rcases A9.1 hs with hs|hs
 . exact Kx c s hs
 . rcases BQ.1 hs with rfl;exact uu l
theorem QB {w:World} {c:az} {l:List ae} {rv ev:Value} (h:dP w c rv) (he:ff w l ev):Calls Tryz.prog 56 #[.agg #[.int .i64 c.aC, .int .i64 c.domain, .int .i64 c.total,rv,ev]] w fun e w'=>e= .returned (.bool (je c l))/\Below w.heap.size w w':=
 vb (C:=fun _=>Mi) (fun I=> @V7 I) (hfn:=rfl) (hb:=rfl) (args:=[.agg #[.int .i64 c.aC, .int .i64 c.domain, .int .i64 c.total,rv,ev]]) (fun I=>⟨(c,l),trivial,PL.cons (@FZ I _ _ _ _ _ (We c l) _ (ZN h he)) PL.nil,rfl⟩)
def Ge [Inhabited aL] (c:az) (m:aJ) (now:Int):List (List aj):=fW (cS bS (de m (fg c m now).1)).length (cS bS (de m (fg c m now).1))
theorem QG {w:World} {b:Nat} {m:aJ} {c:az} {now:Int} {rv:Value} (hS: @ch (lx w) b m) (hp:fQ c m now) (hr:dP w c rv):
  Calls Tryz.prog 57 #[Gt c rv, .pointer (some ⟨b,0,none⟩), .int .i64 now] w fun e w'=>∃v,e= .returned (.tuple #[v, .int .i64 (fg c m now).2])/\ja w' (@Ge (lx w) c m now) v/\Below w.heap.size w w':=by
 letI:Inhabited aL:=lx w
 have h:=lV bC.ok (Lw (xI w)) (fn:=Tryz.f57) (hfn:=by kernel_rfl) (hb:=rfl) (y:=(c,(b,m),now)) ⟨hS,hp⟩ (args:=[Gt c rv, .pointer (some ⟨b,0,none⟩), .int .i64 now]) (w:=w) (PL.cons (FZ (Kx c) (Xr hr)) (PL.cons (.wp _) (PL.cons (.int _ _) PL.nil))) (CC w);refine Calls.mono h ?_;rintro e w' ⟨v,rfl,hv,hbel,_⟩;obtain⟨x,y,rfl,h1,h2⟩:=Yc hv;have h2:=ik h2;subst h2;exact⟨x,rfl,Zb h1,hbel⟩
section
variable [Inhabited aL]
noncomputable def NG (f:FuncId):Option aN:=bif Nat.beq f H3 then some Mk else bif Nat.beq f kC then some x6 else NB f
theorem Vq (hdr:¬(default:aL).dr) (ha:CO pj yJ):∀f C,NG f=some C->CO f C:=bR (Lw hdr) (bR (Ms (tR hdr)) (Vl hdr ha))
theorem UJ {b:Nat} {c:az} {m m':aJ} {l:List ae} {now:Int} (hok:gL m) (hil:(dF m).length<=10000) (hS:ch b m') (hp:fQ c m' now) (hev:fg c m' now=([],0)) (h1:dF m'=fX (aD c) (cY c) (dF m) now) (hd:0<=c.domain/\0<=c.total):
  wp (cz NG (fun _ _=>none)) 2000 ⟨OZ,74,0,[.code (vv 7 (Tryz.f10.body.getD .skip))],⟨[(1,i64 now),(2, .cH (c.enc++[cG l]) 0),(5, .wp ⟨b,0,none⟩),(6, .cH m.enc 0)],⟨0,[]⟩,[]⟩⟩ vP:=by
 (conv=>whnf)
 refine⟨(c,(b,m'),now),?_⟩
 repeat ((conv=>whnf);first|refine⟨rfl,?_⟩|refine⟨trivial,?_⟩)
 refine⟨⟨hS,hp⟩,?_⟩;have hpl:mf c m' now=[]:=by unfold mf;rw[hev];rfl
 have he2:(fg c m' now).2=0:=by rw[hev]
 (conv=>whnf)
 refine ah.2 ⟨fun _=>?_,fun h=>absurd (show((fg c m' now).2==0)=false from h) (by rw[he2];simp)⟩
 (conv=>whnf)
 refine ah.2 ⟨fun _=>?_,fun h=>absurd (show(Int.ofNat (mf c m' now).length==0)=false from h) (by rw[hpl];simp)⟩
 (conv=>whnf)
 refine⟨(b,m'),?_⟩
 repeat ((conv=>whnf);first|refine⟨rfl,?_⟩|refine⟨trivial,?_⟩)
 refine⟨hS,?_⟩
 (conv=>whnf)
 refine⟨m,?_⟩
 repeat ((conv=>whnf);first|refine⟨rfl,?_⟩|refine⟨trivial,?_⟩)
 refine⟨hok,?_⟩
 (conv=>whnf)
 refine⟨(c,dF m,now),?_⟩
 repeat ((conv=>whnf);first|refine⟨rfl,?_⟩|refine⟨trivial,?_⟩)
 refine⟨⟨hd.1,hd.2,hil⟩,?_⟩;have hl1:(dF m').length<=10000:=hp.jx;have hl2:(fX (aD c) (cY c) (dF m) now).length<=10000:=by rw[<-h1];exact hl1
 (conv=>whnf)
 refine⟨(dF m',fX (aD c) (cY c) (dF m) now),?_⟩
 repeat ((conv=>whnf);first|refine⟨rfl,?_⟩|refine⟨trivial,?_⟩)
 refine⟨⟨hl1,hl2⟩,?_⟩
 (conv=>whnf)
 refine ah.2 ⟨fun _=>?_,fun h=>absurd (show decide (dF m'=fX (aD c) (cY c) (dF m) now)=false from h) (by rw[h1];simp)⟩
 (conv=>whnf)
 refine⟨(),?_⟩
 repeat ((conv=>whnf);first|refine⟨rfl,?_⟩|refine⟨trivial,?_⟩)
 repeat' (first|exact trivial|exact rfl|((conv=>whnf);first|(apply aK<;>intro)|apply And.intro))
end
end
theorem Ja {G:bn} {l:List ae} (g:cq G (dV l)) (hl:∀e∈l,iA e=true):u4 (dF (dV l)):=by
 letI:Inhabited aL:=⟨⟨True,#[]⟩⟩
 intro x hx;obtain⟨e,he,rfl⟩:=Au.1 hx;obtain⟨k,hk,rfl⟩:=(wB g e).1 he;have h1:=CR l (Ar.1 (cR.1 (rW hk)).1).1;have h2:=hl _ h1;simp only[iA,Aa,fc,Ad,Ac]at h2;show(dS (dV l) k).1.key.domain.length<=1000000
 omega
theorem UO [Inhabited aL] {w:World} {tmps:Array Value} {ts:Fr} {t b:Nat} {c:az} {l:List ae} {rv ev:Value} {fz:Nat×Nat} (h1:tmps[t]? =some (.pointer (some ⟨b,0,none⟩))) (hb:w.heap[b]? =some (.cells #[.int .i64 c.aC, .int .i64 c.domain, .int .i64 c.total,rv,ev] 89 fz))
  (hr:dP w c rv) (he:ff w l ev) (h:fa Tryz.tab w tmps ts):fa Tryz.tab w tmps ((t, .cH (c.enc++[cG l]) 0)::ts):=by
 have hlt:=(Ae.1 hb).1;refine h.put (av:= .ptr b 0) h1 (fun E hE=>by simp[af,hE b hlt]) ?_;have hg:(bT Tryz.tab w).get b=some (.cells [.int .i64 c.aC, .int .i64 c.domain, .int .i64 c.total,cQ w.heap.size rv,cQ w.heap.size ev] 89 ((Tryz.tab.siz.get 89).getD 1) false .ro):=by
  rw[uE];unfold kz;rw[hb];rfl
 refine .cH b 0 _ 89 _ false .ro (fun j=>([.int .i64 c.aC, .int .i64 c.domain, .int .i64 c.total,cQ w.heap.size rv,cQ w.heap.size ev]:List AV)[j]?.getD .bo) hg (Ai 5) (fun j v hj=>?_) (fun j v hj=>?_)
 all_goals
  have hj3:j<5:=(Ab.1 hj).1;unfold az.enc at hj;match j,hj3 with
  |0,_|1,_|2,_=>cases hj;first|rfl|exact .int _ _
  |3,_=>cases hj;first|rfl|exact qN (JD _) hr
  |4,_=>cases hj;first|rfl|exact qN (uu _) (uY he)
theorem XC {c:az} {m:aJ} {now:Int} (h:(fg c m now).2≠0):(fg c m now).1=[]:=by
 show(iw (c,dF m,now)).1=[]
 have h:(iw (c,dF m,now)).2≠0:=h;unfold iw at h⊢;split
 . rfl
 . rename_i hn;rw[if_neg hn]at h;exact absurd rfl h
theorem O9 {c:az} {l:List ae} {rv ev:Value} {now:Int} {w:World} (hr:dP w c rv) (hv:ff w l ev) (ha:∀w,Calls Tryz.prog 27 #[] w fun e w'=>e= .returned (.bool true)/\Below w.heap.size w w'):
  Calls Tryz.prog 10 #[.agg #[.int .i64 c.aC, .int .i64 c.domain, .int .i64 c.total,rv,ev], .int .i64 now] w fun e w'=>e= .returned (.bool true)/\Below w.heap.size w w':=by
 obtain⟨ra,rk,rfl⟩:=hr.one;obtain⟨sa,sc,rfl⟩:=hv.one;obtain⟨W,hW⟩:∃W,w.alloc (.cells #[.int .i64 c.aC, .int .i64 c.domain, .int .i64 c.total, .slice ra c.rules.length rk, .slice sa l.length sc] 89)=W:=⟨_,rfl⟩;have hbW:Below w.heap.size w W:=by rw[<-hW];exact(Below.refl _ _).alloc (Ai _) _
 have hbb:W.heap[w.heap.size]? =some (.cells #[.int .i64 c.aC, .int .i64 c.domain, .int .i64 c.total, .slice ra c.rules.length rk, .slice sa l.length sc] 89 (0,0)):=by rw[<-hW];exact World.alloc_heap_new _ _
 have d0:=ji (o:=0) hbb;have d1:=ji (o:=1) hbb;have d2:=ji (o:=2) hbb;have d3:=ji (o:=3) hbb;have d4:=ji (o:=4) hbb;simp only[AW,AE,AZ]at d0 d1 d2 d3 d4;have hrW:=hr.cells (eu hbW);have hvW:=hv.cells (eu hbW);have hlight:=QB hrW hvW;refine IE Tryz.func10 rfl ?_;simp only[Tryz.ntmps10,BC,AA,AK,Nat.reduceAdd,Nat.reduceSub,DI,DH,DR,DK,BR,By];refine fm.next Tryz.func10 ?_;go_wp2;show fm _ _ _ _ _ _
 refine fm.next Tryz.func10 ?_
 cases hL:je c l with
 |false=>
  rw[hL]at hlight;go_wp2_with (first|(go_at_call 56;refine hlight.mono ?_;rintro e w1 ⟨rfl,hb1⟩;have ha1:=ha w1)|(go_at_call 27;refine ha1.mono ?_;rintro e w2 ⟨rfl,hb2⟩))
  refine zI (results_tmp rfl _ _ _) rfl ?_;exact⟨rfl,(hbW.trans (hb1.mono hbW.size)).trans (hb2.mono (Aq hbW.size hb1.size))⟩
 |true=>
  rw[hL]at hlight;have hL2:pH c=true/\(bV (Int.ofNat l.length) 30&&l.all iA)=true:=by
    unfold je at hL;exact(Aa _ _).mp hL
  obtain⟨hl30,hlt⟩:= @Wt ⟨⟨True,#[]⟩⟩ l hL2.2;go_wp2_with (first|(go_at_call 56;refine hlight.mono ?_;rintro e w1 ⟨rfl,hb1⟩))
  show fm _ _ _ _ _ _
  refine fm.next Tryz.func10 ?_;have hbb1:=(hb1.block _ (Ae.1 hbb).1).trans hbb;have c4:=eF d4 (hb1.block _ (iC d4));have hr1:=hrW.cells (eu hb1);have hv1:=hvW.cells (eu hb1);have hmade:=QN hv1 hlt hl30;clear hlight d0 d1 d2 d3 d4 hW;go_wp2_with (first|(go_at_call 28;refine hmade.mono ?_;rintro e w2 ⟨b,bk,ba,bd,bs,bv,G,u,rfl,hO,hg,⟨vc,vk,vd,rfl,hm1,hm2,hm3⟩,hb2⟩;obtain⟨ca,na,pa,rfl⟩:=hm1.one;obtain⟨ck,pk,rfl⟩:=hm2.one;obtain⟨cd,nd,pd,rfl⟩:=hm3.one;obtain⟨W1,W2,W3,e1,e2,e3,c0,f0,c1,f1,c2,f2,hbx,hbel⟩:=ZP w2 (.slice ca na pa) (.slice ck (dV l).kept.length pk) (.slice cd nd pd)))
  show fm _ _ _ _ _ _
  refine fm.next Tryz.func10 ?_;have hbd:ed (dV l) l.length:=by
    have hb:= @rX ⟨⟨True,#[]⟩⟩ l hlt.2 l.length (Ai _);rwa [Bp]at hb
  have hok:gL (dV l):= @ed.ok ⟨⟨True,#[]⟩⟩ _ _ hbd (by omega);have hkp:=hbd.kept;have hO3:=hO.below hbel;have hS:=I5 hO3 hg hlt;have hst12:=eu hb2;have hst:=(eu hbel);have hr3:=(hr1.cells hst12).cells hst;have hil:(dF (dV l)).length<=30:=Aq (@Lj ⟨⟨True,#[]⟩⟩ _) (by omega);have hpl:∀gs:List aa,gs.length<=30->(de (dV l) gs).length<=900:=fun gs h=>CB (m:=dV l) (a:=30) (b:=30) (fun k=>Aq (@xO ⟨⟨True,#[]⟩⟩ _ k) (by omega)) h
  have hel:(fg c (dV l) now).1.length<=30:=Aq (@Nl ⟨⟨True,#[]⟩⟩ _) hil;have hpo:fQ c (dV l) now:=⟨Kb hL2.1,by omega,Ja hg hlt.2,by have:=hpl _ hel;omega,by omega,by have:=hpl _ hel;have:=wy (de (dV l) (fg c (dV l) now).1);unfold mf;omega⟩;have hpur:=QG hS hpo hr3;generalize hcs: @Ge (lx W3) c (dV l) now=cs at hpur
  have hbb3:=(hbel.block _ (AY (Ae.1 hbb1).1 hb2.size)).trans ((hb2.block _ (Ae.1 hbb1).1).trans hbb1);have d0:=ji (o:=0) hbb3;have d1:=ji (o:=1) hbb3;have d2:=ji (o:=2) hbb3;have d3:=ji (o:=3) hbb3;simp only[AW,AE,AZ]at d0 d1 d2 d3;clear e1 e2 e3 c0 f0 c1 f1 c2 f2 c4;go_wp2_with (first|(go_at_call 57;refine hpur.mono ?_;rintro e w4 ⟨v4,rfl,hr4,hb4⟩;obtain⟨da,dc,rfl⟩:=hr4.one))
  show fm _ _ _ _ _ _
  refine fm.next Tryz.func10 ?_;have hst4:=eu hb4;have hB1:Below w.heap.size w w1:=hbW.trans (hb1.mono hbW.size);have hB2:Below w.heap.size w w2:=hB1.trans (hb2.mono hB1.size);have hB3:Below w.heap.size w W3:=hB2.trans (hbel.mono hB2.size);have hB4:Below w.heap.size w w4:=hB3.trans (hb4.mono hB3.size);clear hpur d0 d1 d2 d3;by_cases hev:(fg c (dV l) now).2=0
  . have hz:((fg c (dV l) now).2==0)=true:=by rw[hev];rfl
    rw[hev];go_wp2;show fm _ _ _ _ _ _
    refine fm.next Tryz.func10 ?_;have hbx4:=(hb4.block _ (Ae.1 hbx).1).trans hbx;have g0:=ji (o:=0) hbx4;have g1:=ji (o:=1) hbx4;have g2:=ji (o:=2) hbx4;simp only[AW,AE,AZ]at g0 g1 g2;have q1:=(hm1.cells hst).cells hst4;have q2:=(hm2.cells hst).cells hst4;have q3:=(hm3.cells hst).cells hst4;have hfree:=Tryz.free (w:=w4) hok ⟨_,_,_,rfl,q1,q2,q3⟩;have hld:=NV g0 g1 g2
    cases hF:mX (dV l)with
    |false=>
     rw[hF]at hfree;go_wp2_with (first|(go_at_call 30;refine hfree.mono ?_;rintro e w5 ⟨rfl,hb5⟩;have ha1:=ha w5)|(go_at_call 27;refine ha1.mono ?_;rintro e w6 ⟨rfl,hb6⟩))
     refine zI (results_tmp rfl _ _ _) rfl ?_;exact⟨rfl,(hB4.trans (hb5.mono hB4.size)).trans (hb6.mono (hB4.trans (hb5.mono hB4.size)).size)⟩
    |true=>
     rw[hF]at hfree;go_wp2_with (first|(go_at_call 30;refine hfree.mono ?_;rintro e w5 ⟨rfl,hb5⟩))
     show fm _ _ _ _ _ _
     refine fm.next Tryz.func10 ?_;have hO5:=(hO3.below hb4).below hb5;have hst5:=eu hb5;have hr5:=hr4.cells hst5;have hB5:Below w.heap.size w w5:=hB4.trans (hb5.mono hB4.size);have h0:= @Wi ⟨⟨True,#[]⟩⟩ (dV l) hF;have hn5:w1.heap.size<=w5.heap.size:=Aq hb2.size (Aq hbel.size (Aq hb4.size hb5.size));have hcok:∀c∈cs,py c:=by rw[<-hcs];letI:=lx W3;exact VM hg h0
     have hcl:cs.length<=900:=by
       letI:=lx W3
       rw[<-hcs];have h1:=wy (de (dV l) (fg c (dV l) now).1);unfold nW at h1;rw[Bf]at h1;exact Aq h1 (hpl _ hel)
     have hdone:=Tryz.done hO5 hg hn5 hr5 hbd (by omega) h0 hcok (by omega);clear hld hfree g0 g1 g2;go_wp2_with (first|(go_at_call 31;refine hdone.mono ?_;rintro e w6 ⟨rfl,hb6,hc6,G',hO6,hg6⟩))
     show fm _ _ _ _ _ _
     have hB6:Below w.heap.size w w6:=hB5.trans (hb6.mono hB1.size);have u1:=(q1.cells hst5).cells hc6;have u2:=(q2.cells hst5).cells hc6;have u3:=(q3.cells hst5).cells hc6;have hbx6:w6.heap[w2.heap.size]? =some (.cells #[.slice ca na pa, .slice ck (dV l).kept.length pk, .slice cd nd pd] 45 (0,0)):=hc6 _ _ _ _ (hst5 _ _ _ _ hbx4);have hbb6:w6.heap[w.heap.size]? =some (.cells #[.int .i64 c.aC, .int .i64 c.domain, .int .i64 c.total, .slice ra c.rules.length rk, .slice sa l.length sc] 89 (0,0)):=hc6 _ _ _ _ (hst5 _ _ _ _ (hst4 _ _ _ _ hbb3));have hr6:=((hr3.cells hst4).cells hst5).cells hc6;have hv6:=((((hv1.cells hst12).cells hst).cells hst4).cells hst5).cells hc6;letI:Inhabited aL:=lx w6
     obtain⟨m1,m2,m3⟩:=Ce (m:=dV l) (cs:=cs) hbd h0 hcok (by omega) cs.length (Ai _);rw[Bp]at m1 m3;have hov:∀e∈(dV l).kept,e.over.length<=100000:=fun e he=>by
       have:=(uf (hlt.2 e (CR l he))).2;omega
     have hS6:=KF hO6 hg6 (m1.ok (by omega)) (Lc cs (dV l) 0 hov hcok);have hfl:cs.flatten=cS bS (de (dV l) (fg c (dV l) now).1):=by rw[<-hcs];exact Jv _ _ (Ai _)
     have hri:=zr hg;have hit:=Sh hg hev hfl hg6;have hck:=(Np hri hev).1;have hno:=TG hck hri hit;have hil6:(dF (dX (dV l) 0 cs)).length<=30:=by rw[hit];exact Aq (uA _ _ _ _).length_le hil
     have hpo6:fQ c (dX (dV l) 0 cs) now:=by
       refine⟨Kb hL2.1,by omega,?_,?_,by omega,?_⟩
       . rw[hit];exact fun x hx=>Ja hg hlt.2 x ((uA _ _ _ _).subset hx)
       . rw[hno];exact Aw _
       . unfold mf;rw[hno,m3];show _+0<=2048
         omega
     have h1c:=Tu hck;have hlaw:=UJ (m:=dV l) (l:=l) hok (by omega) hS6 hpo6 hno hit ⟨by omega,by omega⟩;refine fm.mono (Ib (n:=2000) (c:=vv 7 (Tryz.f10.body.getD .skip)) bC rfl (Vq (xI w6) (ZA (xI w6) ha)) rfl hlaw ?_ (CC w6)) ?_
     . exact .cons rfl (.int _ _) (UO rfl hbb6 hr6 hv6 (.cons rfl (.wp _) (UP rfl hbx6 u1 u2 u3 .nil)))
     . rintro e w' ⟨rfl,hb'⟩;exact⟨rfl,hB6.trans (hb'.mono hB6.size)⟩
  . have hz:((fg c (dV l) now).2==0)=false:=by rw[Av];simpa using hev
    have hnil:cs=[]:=by
     rw[<-hcs];unfold Ge;rw[XC hev];rfl
    subst hnil;have ha1:=ha w4;go_wp2_with (first|(go_at_call 27;refine ha1.mono ?_;rintro e w5 ⟨rfl,hb5⟩))
    refine zI (results_tmp rfl _ _ _) rfl ?_;exact⟨rfl,hB4.trans (hb5.mono hB4.size)⟩
theorem Uc [Inhabited aL] {w:World} {c:az} {l:List ae} {v:Value} (h:Rd w (fun _=>True) true (.agg (c.enc++[cG l])) v):∃rv ev,v= .agg #[.int .i64 c.aC, .int .i64 c.domain, .int .i64 c.total,rv,ev]/\dP w c rv/\ff w l ev:=by
 cases h with
 | @agg cs vs h1 h2=>
  obtain⟨vl⟩:=vs;match vl,h1 with
  |[a,b,d,rv,ev],_=>
   have k0:=ik (h2 0 (.int .i64 c.aC) a rfl rfl);have k1:=ik (h2 1 (.int .i64 c.domain) b rfl rfl);have k2:=ik (h2 2 (.int .i64 c.total) d rfl rfl);subst k0;subst k1;subst k2;exact⟨rv,ev,rfl,h2 3 _ _ rfl rfl,Nq (h2 4 (cG l) _ rfl rfl)⟩
section
def He:aA:=⟨[110],[97,46,116,101,115,116],[47]⟩
def yY:ae:=⟨⟨0,1,1⟩,⟨0,0,0⟩,1,He,⟨[],false,false,false,false,1099511627776,0,0⟩,[]⟩
def tE:List ae:=[yY]
theorem kg:te tE:=⟨by decide,by decide+kernel⟩
theorem YO:kn (dV tE)=[mq [⟨0,1,1⟩]]:=by kernel_rfl
theorem Vw:iF (dV tE)=[⟨He,yY.ab⟩]:=by kernel_rfl
section
variable [Inhabited aL]
noncomputable def NC (f:FuncId):Option aN:=bif Nat.beq f HM then some NL else bif Nat.beq f ni then some xK else vh f
theorem Vm (hdr:¬(default:aL).dr):∀f C,NC f=some C->CO f C:=bR (Ze hdr) (bR (CG hdr) (xo hdr))
theorem WN {b:Nat} {m:aJ} {x:aa} {d:aj} (hS:ch b m) (hk:m.kept.length<=40) (hE:kn m=[mq [d]]) (hI:iF m=[x]):wp (cz NC (fun _ _=>none)) 2000
  ⟨pj,38,0,[.code (vv 3 (Tryz.f27.body.getD .skip))],⟨[(1, .wp ⟨b,0,none⟩)],⟨0,[]⟩,[]⟩⟩ vP:=by
 have hI':iF (Mp.m (some (b,m)))=[x]:=hI;have hE':kn ((b,m):Nat×aJ).2=[mq [d]]:=hE
 (conv=>whnf)
 refine⟨(b,m),?_⟩
 repeat ((conv=>whnf);first|refine⟨rfl,?_⟩|refine⟨trivial,?_⟩)
 refine⟨⟨hS,hk⟩,?_⟩
 (conv=>whnf)
 refine ah.2 ⟨fun _=>?_,fun h=>absurd h (by rw[hE'];simp)⟩
 (conv=>whnf)
 refine au.2 ⟨mq [d],by rw[hE'];rfl,?_⟩
 (conv=>whnf)
 refine⟨some (b,m),?_⟩
 repeat ((conv=>whnf);first|refine⟨rfl,?_⟩|refine⟨trivial,?_⟩)
 refine⟨hS,?_⟩
 (conv=>whnf)
 rw[hI'];rfl
end
theorem OQ (w:World):Calls Tryz.prog 27 #[] w fun e w'=>e= .returned (.bool true)/\Below w.heap.size w w':=by
 refine IE Tryz.func27 rfl ?_;simp only[Tryz.ntmps27,BC,AA,AK,Nat.reduceAdd,Nat.reduceSub,DI,DH,DR,DK,BR,By];refine fm.next Tryz.func27 ?_;go_wp2;show fm _ _ _ _ _ _
 refine fm.next Tryz.func27 ?_;have hnew:=H9 w;go_wp2_with (go_at_call 14;refine hnew.mono ?_;rintro e w1 ⟨b,bk,ba,bd,bs,bv,rfl,hO,hb1⟩)
 show fm _ _ _ _ _ _
 have happ1:=Tryz.apply hO cq.start hb1.size (e:=yY) (u:=(.agg #[.int .i64 0, .int .i64 1, .int .i64 1, .int .i64 0, .int .i64 0, .int .i64 0, .int .i64 1, .string ⟨#[110]⟩, .string ⟨#[97,46,116,101,115,116]⟩, .string ⟨#[47]⟩, .string ⟨#[]⟩, .bool false, .bool false, .bool false, .bool false, .int .i64 1099511627776, .int .i64 0, .int .i64 0, .slice none 0 0])) ⟨.slice none 0 0,rfl, .inl ⟨rfl,none,0,rfl⟩⟩ ⟨by decide,by decide⟩ (by decide) Om;refine fm.next Tryz.func27 ?_;go_wp2_with (go_at_call 15;refine happ1.mono ?_;rintro e w2 ⟨rfl,hb2,hc2,G2,hO2,hg2⟩)
 show fm _ _ _ _ _ _
 have hS:=I5 (l:=tE) hO2 hg2 kg;letI:Inhabited aL:=lx w2
 have hk:(dV tE).kept.length<=40:=by
   have hb:=rX kg.2 1 (by decide);have:=hb.kept;exact Aq this (by decide)
 refine fm.mono (Ib (n:=2000) (c:=vv 3 (Tryz.f27.body.getD .skip)) bC rfl (Vm (xI w2)) rfl (WN hS hk YO Vw) ?_ (CC w2)) ?_
 . exact .cons rfl (.wp _) .nil
 . rintro e w' ⟨rfl,hb'⟩;exact⟨rfl,(hb1.trans hb2).trans (hb'.mono (Aq hb1.size hb2.size))⟩
end
end Go.Proofs
namespace Go.Proofs.PgL
open Go Go.Am Go.ChangeShapes Go.WideShapes Go.ChangeAt Go.RowKit
open Go.Sy hiding ask
section
instance noDr:Inhabited aL:=⟨⟨False,#[]⟩⟩
section
variable {H:Type} {enc:TypeId×Value->H} {w:World} {base:Nat} {spare:Nat->Bool} {held:Bool} {Fz:Nat->Option AO} {N:Nat}
theorem y9:dO Tryz.prog w base spare held enc Fz N 24 aA aA.enc:=
 dO.map (dO.struct Tryz.underlying24 (by kernel_rfl)
  (.cons (by kernel_rfl) (dO.str Tryz.underlying9) (.cons (by kernel_rfl) (dO.str Tryz.underlying9) (.cons (by kernel_rfl) (dO.str Tryz.underlying9) .nil)))) (fun x=>⟨x.1,x.2.1,x.2.2.1⟩) (fun x=>rfl)
theorem Xt:dO Tryz.prog w base spare held enc Fz N 39 cU cU.enc:=
 dO.map (dO.struct Tryz.underlying39 (by kernel_rfl)
  (.cons (by kernel_rfl) (dO.str Tryz.underlying9) (.cons (by kernel_rfl) (dO.bool Tryz.underlying4) (.cons (by kernel_rfl) (dO.bool Tryz.underlying4) (.cons (by kernel_rfl) (dO.bool Tryz.underlying4) (.cons (by kernel_rfl) (dO.bool Tryz.underlying4)
   (.cons (by kernel_rfl) (dO.int Tryz.underlying3) (.cons (by kernel_rfl) (dO.int Tryz.underlying3) (.cons (by kernel_rfl) (dO.int Tryz.underlying3) .nil))))))))) (fun x=>⟨x.1,x.2.1,x.2.2.1,x.2.2.2.1,x.2.2.2.2.1,x.2.2.2.2.2.1,x.2.2.2.2.2.2.1,x.2.2.2.2.2.2.2.1⟩) (fun x=>rfl)
theorem tI:dO Tryz.prog w base spare held enc Fz N 35 aj aj.enc:=
 dO.map (dO.struct Tryz.underlying35 (by kernel_rfl)
  (.cons (by kernel_rfl) (dO.struct Tryz.underlying33 (by kernel_rfl) (.cons (by kernel_rfl) (dO.int Tryz.underlying3) (.cons (by kernel_rfl) (dO.int Tryz.underlying3) .nil))) (.cons (by kernel_rfl) (dO.int Tryz.underlying3) .nil))) (fun x=>⟨x.1.1,x.1.2.1,x.2.1⟩) (fun x=>rfl)
theorem ZH:dO Tryz.prog w base spare held enc Fz N 37 dN (fun s=>[.int .i64 s.wall, .int .i64 s.count, .int .i64 s.dev]):=
 dO.map (dO.struct Tryz.underlying37 (by kernel_rfl)
  (.cons (by kernel_rfl) (dO.int Tryz.underlying3) (.cons (by kernel_rfl) (dO.int Tryz.underlying3) (.cons (by kernel_rfl) (dO.int Tryz.underlying3) .nil)))) (fun x=>⟨x.1,x.2.1,x.2.2.1⟩) (fun x=>rfl)
theorem Pv:dO Tryz.prog w base spare held enc (bT Tryz.tab w).get w.heap.size 40 (List aj) (fun L=>[.ar aj L aj.enc]):=dO.slice Tryz.underlying40 (show Tryz.prog.cellsOf 35=3 by kernel_rfl) (by omega) (fun _=>rfl) tI
theorem ZF:dO Tryz.prog w base spare held enc (bT Tryz.tab w).get w.heap.size 42 ae ae.enc:=
 dO.map (dO.struct Tryz.underlying42 (by kernel_rfl)
  (.cons (by kernel_rfl) tI (.cons (by kernel_rfl) ZH (.cons (by kernel_rfl) (dO.int Tryz.underlying3) (.cons (by kernel_rfl) y9 (.cons (by kernel_rfl) Xt (.cons (by kernel_rfl) Pv .nil))))))) (fun x=>⟨x.1,x.2.1,x.2.2.1,x.2.2.2.1,x.2.2.2.2.1,x.2.2.2.2.2.1⟩) (fun x=>rfl)
theorem Xu:dO Tryz.prog w base spare held enc (bT Tryz.tab w).get w.heap.size 22 (List ae) (fun L=>[.ar ae L ae.enc]):=dO.slice Tryz.underlying22 (show Tryz.prog.cellsOf 42=19 by kernel_rfl) (by omega) (fun _=>rfl) ZF
theorem ZG:dO Tryz.prog w base spare held enc (bT Tryz.tab w).get w.heap.size 70 (List Bs) (fun L=>[.ar Bs L aU]):=dO.slice Tryz.underlying70 (show Tryz.prog.cellsOf 9=1 by kernel_rfl) (by omega) (fun _=>rfl) (dO.str Tryz.underlying9)
theorem Xs:dO Tryz.prog w base spare held enc (bT Tryz.tab w).get w.heap.size 72 az az.enc:=
 dO.map (dO.struct Tryz.underlying72 (by kernel_rfl)
  (.cons (by kernel_rfl) (dO.int Tryz.underlying3) (.cons (by kernel_rfl) (dO.int Tryz.underlying3) (.cons (by kernel_rfl) (dO.int Tryz.underlying3) (.cons (by kernel_rfl) ZG .nil))))) (fun x=>⟨x.1,x.2.1,x.2.2.1,x.2.2.2.1⟩) (fun x=>rfl)
theorem y8:dO Tryz.prog w base spare held enc (bT Tryz.tab w).get w.heap.size 89 (az×List ae) (fun x=>x.1.enc++[cG x.2]):=
 dO.map (dO.struct Tryz.underlying89 (by kernel_rfl) (.cons (by kernel_rfl) Xs (.cons (by kernel_rfl) Xu .nil))) (fun x=>(x.1,x.2.1)) (fun x=>rfl)
theorem Wo {b0:Nat} {r:Reach} {v:Value} {d:DataW H} {p:List MemPlace} (hv:Value.okWide Tryz.prog w r b0 89 v) (h:DataW.Trod enc Tryz.prog w base spare held 89 v d p):
  ∃(c:az) (l:List ae) (rv ev:Value),v= .agg #[.int .i64 c.aC, .int .i64 c.domain, .int .i64 c.total,rv,ev]/\dP w c rv/\ff w l ev:=by
 obtain⟨cs,rfl,hsz⟩:=okWide_struct Tryz.underlying89 hv;obtain⟨fuel,hf⟩:=h;obtain⟨⟨c,l⟩,hl⟩:=y8.one _ _ _ hf;obtain⟨rv,ev,e,h1,h2⟩:=Uc (Y7 (WS hl));exact⟨c,l,rv,ev,e,h1,h2⟩
end
end
end Go.Proofs.PgL
