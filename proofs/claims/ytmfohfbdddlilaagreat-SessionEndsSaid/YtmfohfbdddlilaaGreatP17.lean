/- Part 17: an evaluator, proved sound, and its use at this seat; no condition. -/
import Derived.Deep.RegionHeld3
import Derived.WalkKit
import Derived.LoopTactic
import Derived.ProofKit
import Derived.OpenShut
import Derived.Test.YtmfohfbdddlilaaGreatP3
import Derived.Test.YtmfohfbdddlilaaGreatP16
set_option linter.unusedSimpArgs false
set_option linter.unusedVariables false
set_option linter.unusedSectionVars false
set_option linter.deprecated false
set_option maxRecDepth 100000
set_option maxHeartbeats 40000000
namespace Go.Proofs
open Go Go.Am Go.RowKit Go.Sy Go.Gm Go.Maps Go.Sort Go.Shelf
theorem NH (k:Nat) (c:List ag) (v:Value):fZ (iO k c) v=(.agg #[.int .i64 63, .int .i64 1048576, .int .i64 ((k:Int)+1), .int .i64 4398046511104, .int .i64 k, .int .i64 63, .int .i64 2, .string ⟨#[]⟩, .string ⟨#[]⟩, .string ⟨#[]⟩, .string ⟨#[]⟩, .bool false, .bool false, .bool false, .bool false, .int .i64 0, .int .i64 0, .int .i64 0,v]):=rfl
theorem RD {k:Nat} (h:k<1000):wrap64 ((k:Int)+1)=(k:Int)+1/\IntKind.i64.wrap ((k:Int)+1)=(k:Int)+1:=⟨IntWalk.wrap64_in _ (by omega),IntWalk.i64_in _ (by omega)⟩
theorem Tryz.done {w:World} {n b bk ba bd bs bv N:Nat} {G:aT} {m:ay} {cs:List (List ag)} {v:Value} (hO:cy w n b bk ba bd bs bv G) (hg:bT G m) (hn:n<=w.heap.size) (hv:hZ w cs v) (hb:dD m N) (hN:N<=40) (h0:getM m.ctx 63 1048576=0) (hcs:∀c∈cs,mR c) (hl:cs.length<=950):
  Calls Tryz.prog 31 #[.pointer (some ⟨b,0,none⟩),v] w fun e w'=>e= .returned (.bool true)/\Below n w w'/\iG w w'/\ ∃G',cy w' n b bk ba bd bs bv G'/\bT G' (dI m 0 cs):=by
 have hkl:=hb.kept;have hst:= @xM ⟨⟨True,#[]⟩⟩ m cs N hb h0 hcs (by omega);obtain⟨sa,sc,rfl⟩:=hv.one;go_enter Tryz.func31,Tryz.ntmps31
 go_wp2;go_loopw [5] (fun i wr=>∃(k:Nat) (G:aT),k<=cs.length/\i= .int .i64 k/\hZ wr cs (.slice sa cs.length sc)/\cy wr n b bk ba bd bs bv G/\bT G (dI m 0 (cs.take k))/\Below n w wr/\iG w wr)
  (fun i _=>cs.length - (intOf i).toNat)
 case atStart=>exact⟨0,_,Av _,rfl,hv,hO,hg,(Below.refl _ _).mono hn,fun _ _ _ _ h=>h⟩
 case round=>
  obtain⟨k,G,hk,rfl,hvr,hOr,hgr,hbr,hcr⟩:=hrel;by_cases hlt2:k<cs.length
  . obtain⟨bb,off,cap,arr,ty,fz,hsl,hbb,hcap,hsz,hcells⟩:=hvr.resolve_left (fun h=>by rw[h.1]at hlt2;exact absurd hlt2 (A9 _));simp only[Value.slice.injEq]at hsl;obtain⟨rfl, -,rfl⟩:=hsl;obtain⟨u,hcu,hdu⟩:=hcells k hlt2;obtain⟨ua,un,uc,rfl⟩:=hdu.one;obtain⟨k1,k2,k3⟩:=hst k hk;have hc:=hcs cs[k] (AF hlt2);have ha:= @G0 ⟨⟨True,#[]⟩⟩ (dI m 0 (cs.take k)) k cs[k] hc (by omega) k2 (by omega);have hok:fT (dI m 0 (cs.take k)):= @dD.ok ⟨⟨True,#[]⟩⟩ _ _ k1 (by omega);have happ:=Tryz.apply (w:=wr.drew) (hOr.below (Below.refl _ wr).drew) hgr (Aq hn hbr.size) (e:=iO k cs[k]) (u:=fZ (iO k cs[k]) (.slice ua un uc)) ⟨_,rfl,hdu.cells (dU (Below.refl _ wr).drew)⟩ ⟨show 0<=1000000 from Av _,show 0<=1000000 from Av _⟩ (by have:=hc.le;show cs[k].length<=100000;omega) hok;rw[ha]at happ;obtain⟨q,hq⟩:∃q,off+k*13=q:=⟨_,rfl⟩;have hS:∀W:World,W.heap[bb]? =some (.cells arr ty fz)->W.cell? ⟨bb,q,none⟩=some (.int .i64 2)/\W.cell? ⟨bb,q+1,none⟩=some (.string ⟨#[]⟩)/\W.cell? ⟨bb,q+2,none⟩=some (.string ⟨#[]⟩)/\W.cell? ⟨bb,q+3,none⟩=some (.string ⟨#[]⟩)/\W.cell? ⟨bb,q+4,none⟩=some (.string ⟨#[]⟩)/\W.cell? ⟨bb,q+5,none⟩=some (.bool false)/\W.cell? ⟨bb,q+6,none⟩=some (.bool false)/\W.cell? ⟨bb,q+7,none⟩=some (.bool false)/\W.cell? ⟨bb,q+8,none⟩=some (.bool false)/\W.cell? ⟨bb,q+9,none⟩=some (.int .i64 0)/\W.cell? ⟨bb,q+10,none⟩=some (.int .i64 0)/\W.cell? ⟨bb,q+11,none⟩=some (.int .i64 0)/\W.cell? ⟨bb,q+12,none⟩=some (.slice ua un uc):=fun W hW=>by
     have hc:∀j,j<13->W.cell? ⟨bb,q+j,none⟩=(jk (.slice ua un uc))[j]? :=fun j hj=>by rw[kE hW,<-hq];exact hcu j hj
     exact⟨hc 0 (by omega),hc 1 (by omega),hc 2 (by omega),hc 3 (by omega),hc 4 (by omega),hc 5 (by omega),hc 6 (by omega),hc 7 (by omega),hc 8 (by omega),hc 9 (by omega),hc 10 (by omega),hc 11 (by omega),hc 12 (by omega)⟩
    have hcell:∀j,j<13->wr.cell? ⟨bb,q+j,none⟩=(jk (.slice ua un uc))[j]? :=fun j hj=>by rw[kE hbb,<-hq];exact hcu j hj
    have c0:=hcell 0 (by omega);have c1:=hcell 1 (by omega);have c2:=hcell 2 (by omega);have c3:=hcell 3 (by omega);have c4:=hcell 4 (by omega);have c5:=hcell 5 (by omega);have c6:=hcell 6 (by omega);have c7:=hcell 7 (by omega);have c8:=hcell 8 (by omega);have c9:=hcell 9 (by omega);have c10:=hcell 10 (by omega);have c11:=hcell 11 (by omega);have c12:=hcell 12 (by omega);simp only[jk,AA,AY,Bk]at c0 c1 c2 c3 c4 c5 c6 c7 c8 c9 c10 c11 c12;have hvx:∀wn,iG wr.drew wn->hZ wn cs (.slice (some ⟨bb,off,none⟩) cs.length sc):=fun wn hc=>hvr.cells hc
    clear hcell hcu hvr hv;rw[NH]at happ;obtain⟨hw1,hw2⟩:=RD (k:=k) (by omega);have i0:(0:Int)<=(k:Int):=EB k;have i1:(k:Int)<(cs.length:Int):=Int.ofNat_lt.2 hlt2;have i2:(k:Int)<=(cs.length:Int):=Int.le_of_lt i1;have hq':=hq;clear hst ha hc k1 k2 k3 hcs hb hok hdu hcap hsz hcells hO hg h0 hl hN hkl;go_wp2;go_region_held3 (fun w'=>w'.cell? ⟨bb,q,none⟩=some (.int .i64 2)/\w'.cell? ⟨bb,q+1,none⟩=some (.string ⟨#[]⟩)/\w'.cell? ⟨bb,q+2,none⟩=some (.string ⟨#[]⟩)/\w'.cell? ⟨bb,q+3,none⟩=some (.string ⟨#[]⟩)/\w'.cell? ⟨bb,q+4,none⟩=some (.string ⟨#[]⟩)/\w'.cell? ⟨bb,q+5,none⟩=some (.bool false)/\w'.cell? ⟨bb,q+6,none⟩=some (.bool false)/\w'.cell? ⟨bb,q+7,none⟩=some (.bool false)/\w'.cell? ⟨bb,q+8,none⟩=some (.bool false)/\w'.cell? ⟨bb,q+9,none⟩=some (.int .i64 0)/\w'.cell? ⟨bb,q+10,none⟩=some (.int .i64 0)/\w'.cell? ⟨bb,q+11,none⟩=some (.int .i64 0)/\w'.cell? ⟨bb,q+12,none⟩=some (.slice ua un uc)) (simp[*]) (first|(go_at_call 15;refine happ.mono ?_;rintro e wn ⟨rfl,hbn,hcn,G',hO',hg'⟩;obtain⟨z0,z1,z2,z3,z4,z5,z6,z7,z8,z9,z10,z11,z12⟩:=hS wn (hcn _ _ _ _ hbb)))
    go_wp2;exact⟨⟨k+1,G',hlt2,by go_num,hvx wn hcn,hO',by rw[G1 hlt2];exact hg',hbr.drew.trans hbn,fun c x y z h=>hcn c x y z (hcr c x y z h)⟩,by simp[intOf];omega⟩
  . have hks:k=cs.length:=by omega
    subst hks;go_wp2;go_ret;rw[Bg]at hgr;exact⟨rfl,hbr,hcr,G,hOr,hgr⟩
section
section
variable [Inhabited aF]
def GA:aP:={Y:=Nat×ay,pre:=fun y=>bP y.1 y.2,args:=fun y=>[.wp ⟨y.1,0,none⟩],res:=fun y=>lA (eU y.2)}
def NL (m:ay):aK:=let l:=eX m;{α:=Nat,ok:=fun i=>i<=l.length,μ:=fun i=>l.length - i,aU:=[0,2],aR:=fun i=>[(3, .own 0),(4,cI l),(5,i64 i)],bD:=fun i=>[(0,sD ((l.take i).map aa.item))]}
theorem M9 (hdr:¬(default:aF).dr):CO pC GA:=bZ (cfg:=fun(y:Nat×ay)=>bU vP (cS pC 4 (NL y.2))) bH (fun _=>rfl) (fun _=>x5 hdr) (n:=600) (by
 intro (y:Nat×ay) (hm:bP y.1 y.2);obtain⟨b,m⟩:=y;have hm:bP b m:=hm;have hwl:=tU hm.ok
 (conv=>whnf)
 refine⟨(b,m),?_⟩
 repeat ((conv=>whnf);first|refine⟨rfl,?_⟩|refine⟨trivial,?_⟩)
 refine⟨hm,?_⟩
 (conv=>whnf)
 refine⟨⟨(0:Nat),Av _,?_⟩,?_⟩
 . repeat' (first|exact trivial|exact rfl|((conv=>whnf);first|(apply aA<;>intro)|apply And.intro))
 intro (x:Nat) hx;have hx:x<=(eX m).length:=hx
 (conv=>whnf)
 refine aA (fun hlt=>?_) fun hge=>?_
 . have hlt':x<(eX m).length:=cY hlt;have hf:=uN aa.item hlt';have hz:(((eX m).take x).map aa.item).length+1<=60000:=by simp;omega
   (conv=>whnf)
   refine ar.2 ⟨_,dz hlt',?_⟩
   (conv=>whnf)
   refine ar.2 ⟨_,dz hlt',?_⟩
   (conv=>whnf)
   refine⟨(eX m)[x].item,rfl,?_⟩
   (conv=>whnf)
   refine ah.2 ⟨ri _ hz,?_⟩
   (conv=>whnf)
   refine ah.2 ⟨cM x (by omega),?_⟩
   (conv=>whnf)
   refine⟨(x+1:Nat),hlt',by show(eX m).length - (x+1)<(eX m).length - x;omega,?_⟩
   repeat' (first|exact trivial|exact rfl|((conv=>whnf);first|(apply aA<;>intro)|apply And.intro))
   all_goals ((conv=>whnf);rw[hf])
 . have hge':(eX m).length<=x:=fY hge
   (conv=>whnf)
   refine⟨by rw[As hge'];rfl,?_⟩
   repeat' (first|exact trivial|exact rfl|((conv=>whnf);first|(apply aA<;>intro)|apply And.intro)))
noncomputable def I5 (f:FuncId):Option aP:=bif Nat.beq f pC then some GA else bif Nat.beq f lI then some vi else bif Nat.beq f pB then some y9 else sV f
theorem NU (hdr:¬(default:aF).dr) (ha:CO pB y9):∀f C,I5 f=some C->CO f C:=bX (M9 hdr) (bX (xV hdr) (bX ha (uC hdr)))
def sQ (m:ay):List aH:=(eU m).filter fun x=>x.ae.persistent
def RN (m:ay):aK:=let l:=eU m;{α:=Nat,ok:=fun i=>i<=l.length,μ:=fun i=>l.length - i,aU:=[3],aR:=fun i=>[(7, .own 0),(8,lA l),(9,i64 i)],bD:=fun i=>[(0,sD ((l.take i).filter fun x=>x.ae.persistent))]}
theorem PJ {b:Nat} {m m':ay} (hok:fT m) (hil:(eU m).length<=10000) (hS:bP b m') (h1:eU m'=sQ m) (h2:eB m'=[]):wp (bU I5 (cS tl 12 (RN m))) 2000
   ⟨tl,71,0,[.code (te 6 (Tryz.f5.body.getD .skip))],⟨[(3, .wp ⟨b,0,none⟩),(4, .cB m.enc 0)],⟨0,[]⟩,[]⟩⟩ tC:=by
 have hkl:(sQ m).length<=(eU m).length:=A7 _ _
 (conv=>whnf)
 refine⟨m,?_⟩
 repeat ((conv=>whnf);first|refine⟨rfl,?_⟩|refine⟨trivial,?_⟩)
 refine⟨hok,?_⟩
 (conv=>whnf)
 refine⟨⟨(0:Nat),Av _,?_⟩,?_⟩
 . repeat' (first|exact trivial|exact rfl|((conv=>whnf);first|(apply aA<;>intro)|apply And.intro))
 intro (x:Nat) hx;have hx:x<=(eU m).length:=hx;have hlen:=yM (l:=eU m) (x:=x) (p:=fun z:aH=>z.ae.persistent)
 (conv=>whnf)
 refine aA (fun hlt=>?_) fun hge=>?_
 . have hlt':x<(eU m).length:=cY hlt;have hf:=u9 (p:=fun z:aH=>z.ae.persistent) hlt';have mu:(eU m).length - (x+1)<(eU m).length - x:=by omega
   have hz:(((eU m).take x).filter fun z:aH=>z.ae.persistent).length+1<=60000:=by omega
   (conv=>whnf)
   refine ar.2 ⟨_,dz hlt',?_⟩
   (conv=>whnf)
   refine aA (fun h=>?_) fun h=>?_
   . have h:(eU m)[x].ae.persistent=true:=h;simp only[h,if_true]at hf
     (conv=>whnf)
     refine ar.2 ⟨_,dz hlt',?_⟩
     (conv=>whnf)
     refine⟨(eU m)[x],rfl,?_⟩
     (conv=>whnf)
     refine ah.2 ⟨ri _ hz,?_⟩
     (conv=>whnf)
     refine ah.2 ⟨cM x (by omega),?_⟩
     (conv=>whnf)
     refine⟨(x+1:Nat),hlt',mu,?_⟩
     repeat' (first|exact trivial|exact rfl|((conv=>whnf);first|(apply aA<;>intro)|apply And.intro))
     all_goals ((conv=>whnf);rw[hf])
   . have h:(eU m)[x].ae.persistent=false:=h;simp only[h,Ak,Aw,BW]at hf
     (conv=>whnf)
     refine ah.2 ⟨cM x (by omega),?_⟩
     (conv=>whnf)
     refine⟨(x+1:Nat),hlt',mu,?_⟩
     repeat' (first|exact trivial|exact rfl|((conv=>whnf);first|(apply aA<;>intro)|apply And.intro))
     all_goals ((conv=>whnf);rw[hf])
 . (conv=>whnf)
   refine⟨(b,m'),?_⟩
   repeat ((conv=>whnf);first|refine⟨rfl,?_⟩|refine⟨trivial,?_⟩)
   refine⟨hS,?_⟩
   (conv=>whnf)
   have hge':(eU m).length<=x:=fY hge;refine⟨(eU m',sQ m),?_⟩
   repeat ((conv=>whnf);first|refine⟨rfl,?_⟩|refine⟨trivial,?_⟩)
   (conv=>whnf)
   refine⟨by rw[As hge'];rfl,?_⟩
   repeat ((conv=>whnf);first|refine⟨rfl,?_⟩|refine⟨trivial,?_⟩)
   have hl1:(eU m').length<=10000:=by rw[h1];exact Aq hkl hil
   have hl2:(sQ m).length<=10000:=by rw[<-h1];exact hl1
   refine⟨⟨hl1,hl2⟩,?_⟩
   (conv=>whnf)
   refine aj.2 ⟨fun _=>?_,fun h=>absurd (show decide (eU m'=sQ m)=false from h) (by simp[h1])⟩
   (conv=>whnf)
   refine⟨some (b,m'),?_⟩
   repeat ((conv=>whnf);first|refine⟨rfl,?_⟩|refine⟨trivial,?_⟩)
   refine⟨hS,?_⟩;have h2':eB (Mp.m (some (b,m')))=[]:=h2
   (conv=>whnf)
   refine aj.2 ⟨fun _=>?_,fun h=>absurd h (by rw[h2'];simp)⟩
   (conv=>whnf)
   refine⟨(),?_⟩
   repeat ((conv=>whnf);first|refine⟨rfl,?_⟩|refine⟨trivial,?_⟩)
   repeat' (first|exact trivial|exact rfl|((conv=>whnf);first|(apply aA<;>intro)|apply And.intro))
end
end
theorem Tryz.free {m:ay} {u:Value} {w:World} (hok:fT m) (h:gj w u m):Calls Tryz.prog 30 #[u] w fun e w'=>e= .returned (.bool (lB m))/\Below w.heap.size w w':=
 sT (C:=fun _=>IS) (hfn:=rfl) (hb:=rfl) (args:=[u]) (fun I=> @Rn I) (fun I=>by letI:=I;exact⟨m,hok,PL.cons (PK (Nl m) (QQ h)) PL.nil,rfl⟩)
theorem PG [Inhabited aF] {w:World} {p:Nat->Prop} {g:Bool} {s t:SV} {v:Value} (h:Rd w p g (.bj [s,t]) v):∃x y,v= .tuple #[x,y]/\Rd w p g s x/\Rd w p g t y:=by
 cases h with
 | @bj cs vs h1 h2=>
  obtain⟨l⟩:=vs;match l,h1 with
  |[x,y],_=>exact⟨x,y,rfl,h2 0 _ _ rfl rfl,h2 1 _ _ rfl rfl⟩
def rl [Inhabited aF] (m:ay):List (List ag):=fv (cw bu (dO m (eB m))).length (cw bu (dO m (eB m)))
theorem Tn {w:World} {b:Nat} {m:ay} (hS: @bP (jZ w) b m) (hk:m.kept.length<=40):
  Calls Tryz.prog 29 #[.pointer (some ⟨b,0,none⟩)] w fun e w'=>∃v,e= .returned (.tuple #[v, .int .i64 0])/\hZ w' (@rl (jZ w) m) v/\Below w.heap.size w w':=by
 letI:Inhabited aF:=jZ w
 have h:=JH bH.ok (IF (vg w)) (fn:=Tryz.f29) (hfn:=by kernel_rfl) (hb:=rfl) (y:=(b,m)) ⟨hS,hk⟩ (args:=[.pointer (some ⟨b,0,none⟩)]) (w:=w) (PL.cons (.wp _) PL.nil) (yj w);refine Calls.mono h ?_;rintro e w' ⟨v,rfl,hv,hbel,_⟩;obtain⟨x,y,rfl,h1,h2⟩:=PG hv;have h2:=ij h2;subst h2;exact⟨x,rfl,QU h1,hbel⟩
theorem Qj (w:World) (x y z:Value):∃W1 W2 W3,(w.alloc (.cells #[.slice none 0 0, .slice none 0 0, .slice none 0 0] 45)).setCell ⟨w.heap.size,0,none⟩ x=W1/\W1.setCell ⟨w.heap.size,1,none⟩ y=W2/\W2.setCell ⟨w.heap.size,2,none⟩ z=W3/\
  (w.alloc (.cells #[.slice none 0 0, .slice none 0 0, .slice none 0 0] 45)).cell? ⟨w.heap.size,0,none⟩=some (.slice none 0 0)/\(w.alloc (.cells #[.slice none 0 0, .slice none 0 0, .slice none 0 0] 45)).frozen? ⟨w.heap.size,0,none⟩=false/\W1.cell? ⟨w.heap.size,1,none⟩=some (.slice none 0 0)/\W1.frozen? ⟨w.heap.size,1,none⟩=false/\W2.cell? ⟨w.heap.size,2,none⟩=some (.slice none 0 0)/\W2.frozen? ⟨w.heap.size,2,none⟩=false/\
  W3.heap[w.heap.size]? =some (.cells #[x,y,z] 45 (0,0))/\Below w.heap.size w W3:=by
 have hb:(w.alloc (.cells #[.slice none 0 0, .slice none 0 0, .slice none 0 0] 45)).heap[w.heap.size]? =some (.cells #[.slice none 0 0, .slice none 0 0, .slice none 0 0] 45 (0,0)):=World.alloc_heap_new _ _;obtain⟨W1,W2,W3,e1,e2,e3,c0,f0,c1,f1,c2,f2,g0,g1,g2,hbb,hbel⟩:=IL hb x y z;have h1:=qe (o:=0) hb x;rw[e1]at h1;have h2:=qe (o:=1) h1 y;rw[e2]at h2;have h3:=qe (o:=2) h2 z;rw[e3]at h3;exact⟨W1,W2,W3,e1,e2,e3,c0,f0,c1,f1,c2,f2,h3,((Below.refl _ _).alloc (Ah _) _).trans (hbel _ (Ah _))⟩
theorem MU [Inhabited aF] {w:World} {tmps:Array Value} {ts:Fr} {t b:Nat} {m:ay} {vc vk vd:Value} {fz:Nat×Nat} (h1:tmps[t]? =some (.pointer (some ⟨b,0,none⟩))) (hb:w.heap[b]? =some (.cells #[vc,vk,vd] 45 fz))
  (hc:bY w m.ctx vc) (hk:fa w m.kept vk) (hd:bY w m.dead vd) (h:eZ Tryz.tab w tmps ts):eZ Tryz.tab w tmps ((t, .cB m.enc 0)::ts):=by
 have hlt:=(Ac.1 hb).1;refine h.put (av:= .ptr b 0) h1 (fun E hE=>by simp[ab,hE b hlt]) ?_;have hg:(bS Tryz.tab w).get b=some (.cells [cO w.heap.size vc,cO w.heap.size vk,cO w.heap.size vd] 45 ((Tryz.tab.siz.get 45).getD 1) false .ro):=by
  rw[uP];unfold jM;rw[hb];rfl
 refine .cB b 0 _ 45 _ false .ro (fun j=>([cO w.heap.size vc,cO w.heap.size vk,cO w.heap.size vd]:List AV)[j]?.getD .aW) hg (Ah 3) (fun j v hj=>?_) (fun j v hj=>?_)
 all_goals
  have hj3:j<3:=(Ad.1 hj).1;match j,hj3 with
  |0,_=>cases hj;first|rfl|exact sK (rN _) (sB hc)
  |1,_=>cases hj;first|rfl|exact sK (uJ _) (vE hk)
  |2,_=>cases hj;first|rfl|exact sK (rN _) (sB hd)
theorem Og {l:List aa} {e x:aa} (h:x∈eQ l e):x∈l\/x=e:=by
 unfold eQ at h;rcases Ba.1 h with h|h
 . exact .inl (Di h)
 . rcases Aj.1 h with h|h
   . exact .inr h
   . exact .inl (DU h)
theorem G3:∀(cs:List (List ag)) (m:ay) (k:Nat),(∀e∈m.kept,e.over.length<=100000)->(∀c∈cs,mR c)->∀e∈(dI m k cs).kept,e.over.length<=100000
 |[],_,_,h,_=>h
 |c::cs,m,k,h,hc=>G3 cs (kT m k c) (k+1) (fun e he=>by
  rcases Og (l:=m.kept) (e:=iO k c) he with h1|rfl
  . exact h e h1
  . have:=(hc c Ao).le;show c.length<=100000
    omega) (fun d hd=>hc d (An _ hd))
theorem S2 {l:List aa} {v:Value} {w:World} (hv:fa w l v) (ha:∀w,Calls Tryz.prog 27 #[] w fun e w'=>e= .returned (.bool true)/\Below w.heap.size w w'):
  Calls Tryz.prog 5 #[v] w fun e w'=>e= .returned (.bool true)/\Below w.heap.size w w':=by
 have hlight:=SP hv;obtain⟨sa,sc,rfl⟩:=hv.one;refine zU Tryz.func5 rfl ?_;simp only[Tryz.ntmps5,Br,A1,Bb,Nat.reduceAdd,Nat.reduceSub,Dx,Dw,DG,Dz,BE,Bh];refine eS.next Tryz.func5 ?_;go_wp2;show eS _ _ _ _ _ _
 refine eS.next Tryz.func5 ?_
 cases hL:(bG (Int.ofNat l.length) 30&&l.all iw)with
 |false=>
  rw[hL]at hlight;go_wp2_with (first|(go_at_call 12;refine hlight.mono ?_;rintro e w1 ⟨rfl,hb1⟩;have ha1:=ha w1)|(go_at_call 27;refine ha1.mono ?_;rintro e w2 ⟨rfl,hb2⟩))
  refine CS (results_tmp rfl _ _ _) rfl ?_;exact⟨rfl,hb1.trans (hb2.mono hb1.size)⟩
 | true=>
  rw[hL]at hlight;obtain⟨hl30,hlt⟩:= @OC ⟨⟨True,#[]⟩⟩ l hL;go_wp2_with (first|(go_at_call 12;refine hlight.mono ?_;rintro e w1 ⟨rfl,hb1⟩))
  show eS _ _ _ _ _ _
  refine eS.next Tryz.func5 ?_;have hmade:=Tt (hv.cells (dU hb1)) hlt hl30;go_wp2_with (first|(go_at_call 28;refine hmade.mono ?_;rintro e w2 ⟨b,bk,ba,bd,bs,bv,G,u,rfl,hO,hg,⟨vc,vk,vd,rfl,hm1,hm2,hm3⟩,hb2⟩;obtain⟨ca,na,pa,rfl⟩:=hm1.one;obtain⟨ck,pk,rfl⟩:=hm2.one;obtain⟨cd,nd,pd,rfl⟩:=hm3.one;obtain⟨W1,W2,W3,e1,e2,e3,c0,f0,c1,f1,c2,f2,hbx,hbel⟩:=Qj w2 (.slice ca na pa) (.slice ck (ey l).kept.length pk) (.slice cd nd pd)))
  show eS _ _ _ _ _ _
  refine eS.next Tryz.func5 ?_;have hbd:dD (ey l) l.length:=by
   have hb:= @qg ⟨⟨True,#[]⟩⟩ l hlt.2 l.length (Ah _);rwa [Bg]at hb
  have hok:fT (ey l):= @dD.ok ⟨⟨True,#[]⟩⟩ _ _ hbd (by omega);have hkp:=hbd.kept;have hO3:=hO.below hbel;have hS:=CW hO3 hg hlt;have hend:=Tn hS (by omega);generalize hcs: @rl (jZ W3) (ey l)=cs at hend
  clear e1 e2 e3 c0 f0 c1 f1 c2 f2;go_wp2_with (first|(go_at_call 29;refine hend.mono ?_;rintro e w4 ⟨v4,rfl,hr4,hb4⟩;obtain⟨da,dc,rfl⟩:=hr4.one))
  show eS _ _ _ _ _ _
  refine eS.next Tryz.func5 ?_;have hbx4:=(hb4.block _ (Ac.1 hbx).1).trans hbx;have g0:=kE (o:=0) hbx4;have g1:=kE (o:=1) hbx4;have g2:=kE (o:=2) hbx4;simp only[AS,AA,AY]at g0 g1 g2;have hst:=(dU hbel);have hst4:=dU hb4;have q1:=(hm1.cells hst).cells hst4;have q2:=(hm2.cells hst).cells hst4;have q3:=(hm3.cells hst).cells hst4;have hfree:=Tryz.free (w:=w4) hok ⟨_,_,_,rfl,q1,q2,q3⟩;have hld:=IN g0 g1 g2;have hB2:Below w.heap.size w w2:=hb1.trans (hb2.mono hb1.size);have hB3:Below w.heap.size w W3:=hB2.trans (hbel.mono hB2.size);have hB4:Below w.heap.size w w4:=hB3.trans (hb4.mono hB3.size)
  cases hF:lB (ey l)with
  |false=>
   rw[hF]at hfree;go_wp2_with (first|(go_at_call 30;refine hfree.mono ?_;rintro e w5 ⟨rfl,hb5⟩;have ha1:=ha w5)|(go_at_call 27;refine ha1.mono ?_;rintro e w6 ⟨rfl,hb6⟩))
   refine CS (results_tmp rfl _ _ _) rfl ?_;exact⟨rfl,(hB4.trans (hb5.mono hB4.size)).trans (hb6.mono (hB4.trans (hb5.mono hB4.size)).size)⟩
  |true=>
   rw[hF]at hfree;go_wp2_with (first|(go_at_call 30;refine hfree.mono ?_;rintro e w5 ⟨rfl,hb5⟩))
   show eS _ _ _ _ _ _
   refine eS.next Tryz.func5 ?_;have hO5:=(hO3.below hb4).below hb5;have hr5:=hr4.cells (dU hb5);have hB5:Below w.heap.size w w5:=hB4.trans (hb5.mono hB4.size);have h0:= @Nq ⟨⟨True,#[]⟩⟩ (ey l) hF;have hn5:w1.heap.size<=w5.heap.size:=Aq hb2.size (Aq hbel.size (Aq hb4.size hb5.size));have hcok:∀c∈cs,mR c:=by rw[<-hcs];letI:=jZ W3;exact Qd hg h0
   have hcl:cs.length<=950:=by
     letI:=jZ W3
     rw[<-hcs];have h1:=w7 (dO (ey l) (eB (ey l)));unfold mW at h1;rw[A6]at h1;have h2:(eB (ey l)).length<=30:=Aq (A7 _ _) (Aq (yf _) (by omega));have h3:=yi (m:=ey l) (a:=30) (b:=30) (fun k=>Aq (yp _ k) (by omega)) h2;exact Aq h1 (by omega)
   have hdone:=Tryz.done hO5 hg hn5 hr5 hbd (by omega) h0 hcok hcl;clear hld hfree hend g0 g1 g2;go_wp2_with (first|(go_at_call 31;refine hdone.mono ?_;rintro e w6 ⟨rfl,hb6,hc6,G',hO6,hg6⟩))
   show eS _ _ _ _ _ _
   have hB6:Below w.heap.size w w6:=hB5.trans (hb6.mono hb1.size);have hst5:=dU hb5;have u1:=(q1.cells hst5).cells hc6;have u2:=(q2.cells hst5).cells hc6;have u3:=(q3.cells hst5).cells hc6;have hbx6:w6.heap[w2.heap.size]? =some (.cells #[.slice ca na pa, .slice ck (ey l).kept.length pk, .slice cd nd pd] 45 (0,0)):=hc6 _ _ _ _ (hst5 _ _ _ _ hbx4);letI:Inhabited aF:=jZ w6
   have hokc:∀c∈cs,mR c:=hcok;obtain⟨m1,m2,m3⟩:=xM (m:=ey l) (cs:=cs) hbd h0 hokc (by omega) cs.length (Ah _);rw[Bg]at m1;have hov:∀e∈(ey l).kept,e.over.length<=100000:=fun e he=>by
     have:=(rG (hlt.2 e (Hq l he))).2;omega
   have hS6:=F1 hO6 hg6 (m1.ok (by omega)) (G3 cs (ey l) 0 hov hokc);have hfl:cs.flatten=cw bu (dO (ey l) (eB (ey l))):=by rw[<-hcs];exact CN _ _ (Ah _)
   have hlaw:=PJ (m:=ey l) hok (by have:=yf (ey l);omega) hS6 (Gg hg hfl hg6) (Om hg hfl hg6);refine eS.mono (Jw (n:=2000) (c:=te 6 (Tryz.f5.body.getD .skip)) bH rfl (NU (vg w6) (QL (vg w6) ha)) rfl hlaw ?_ (yj w6)) ?_
   . exact .cons rfl (.wp _) (MU rfl hbx6 u1 u2 u3 .nil)
   . rintro e w' ⟨rfl,hb'⟩;exact⟨rfl,hB6.trans (hb'.mono hB6.size)⟩
section
def zA:aC:=⟨[110],[97,46,116,101,115,116],[47]⟩
def wD:aa:=⟨⟨0,1,1⟩,⟨0,0,0⟩,1,zA,⟨[],false,false,false,false,1099511627776,0,0⟩,[]⟩
def rf:List aa:=[wD]
theorem jc:qF rf:=⟨by decide,by decide+kernel⟩
theorem Qv:jg (ey rf)=[kS [⟨0,1,1⟩]]:=by kernel_rfl
theorem ML:eB (ey rf)=[⟨zA,wD.ae⟩]:=by kernel_rfl
section
variable [Inhabited aF]
noncomputable def I6 (f:FuncId):Option aP:=bif Nat.beq f JG then some IP else bif Nat.beq f lI then some vi else sV f
theorem NV (hdr:¬(default:aF).dr):∀f C,I6 f=some C->CO f C:=bX (IF hdr) (bX (xV hdr) (uC hdr))
theorem Oo {b:Nat} {m:ay} {x:aH} {d:ag} (hS:bP b m) (hk:m.kept.length<=40) (hE:jg m=[kS [d]]) (hI:eB m=[x]):wp (bU I6 (fun _ _=>none)) 2000
  ⟨pB,38,0,[.code (te 3 (Tryz.f27.body.getD .skip))],⟨[(1, .wp ⟨b,0,none⟩)],⟨0,[]⟩,[]⟩⟩ tC:=by
 have hI':eB (Mp.m (some (b,m)))=[x]:=hI;have hE':jg ((b,m):Nat×ay).2=[kS [d]]:=hE
 (conv=>whnf)
 refine⟨(b,m),?_⟩
 repeat ((conv=>whnf);first|refine⟨rfl,?_⟩|refine⟨trivial,?_⟩)
 refine⟨⟨hS,hk⟩,?_⟩
 (conv=>whnf)
 refine aj.2 ⟨fun _=>?_,fun h=>absurd h (by rw[hE'];simp)⟩
 (conv=>whnf)
 refine ar.2 ⟨kS [d],by rw[hE'];rfl,?_⟩
 (conv=>whnf)
 refine⟨some (b,m),?_⟩
 repeat ((conv=>whnf);first|refine⟨rfl,?_⟩|refine⟨trivial,?_⟩)
 refine⟨hS,?_⟩
 (conv=>whnf)
 rw[hI'];rfl
end
theorem S0 (w:World):Calls Tryz.prog 27 #[] w fun e w'=>e= .returned (.bool true)/\Below w.heap.size w w':=by
 refine zU Tryz.func27 rfl ?_;simp only[Tryz.ntmps27,Br,A1,Bb,Nat.reduceAdd,Nat.reduceSub,Dx,Dw,DG,Dz,BE,Bh];refine eS.next Tryz.func27 ?_;go_wp2;show eS _ _ _ _ _ _
 refine eS.next Tryz.func27 ?_;have hnew:=Ju w;go_wp2_with (go_at_call 14;refine hnew.mono ?_;rintro e w1 ⟨b,bk,ba,bd,bs,bv,rfl,hO,hb1⟩)
 show eS _ _ _ _ _ _
 have happ1:=Tryz.apply hO JX hb1.size (e:=wD) (u:=(.agg #[.int .i64 0, .int .i64 1, .int .i64 1, .int .i64 0, .int .i64 0, .int .i64 0, .int .i64 1, .string ⟨#[110]⟩, .string ⟨#[97,46,116,101,115,116]⟩, .string ⟨#[47]⟩, .string ⟨#[]⟩, .bool false, .bool false, .bool false, .bool false, .int .i64 1099511627776, .int .i64 0, .int .i64 0, .slice none 0 0])) ⟨.slice none 0 0,rfl, .inl ⟨rfl,none,0,rfl⟩⟩ ⟨by decide,by decide⟩ (by decide) J1;refine eS.next Tryz.func27 ?_;go_wp2_with (go_at_call 15;refine happ1.mono ?_;rintro e w2 ⟨rfl,hb2,hc2,G2,hO2,hg2⟩)
 show eS _ _ _ _ _ _
 have hS:=CW (l:=rf) hO2 hg2 jc;letI:Inhabited aF:=jZ w2
 have hk:(ey rf).kept.length<=40:=by
   have hb:=qg jc.2 1 (by decide);have:=hb.kept;exact Aq this (by decide)
 refine eS.mono (Jw (n:=2000) (c:=te 3 (Tryz.f27.body.getD .skip)) bH rfl (NV (vg w2)) rfl (Oo hS hk Qv ML) ?_ (yj w2)) ?_
 . exact .cons rfl (.wp _) .nil
 . rintro e w' ⟨rfl,hb'⟩;exact⟨rfl,(hb1.trans hb2).trans (hb'.mono (Aq hb1.size hb2.size))⟩
end
end Go.Proofs
namespace Go.Proofs.VwL
open Go Go.Am Go.ChangeShapes Go.WideShapes Go.ChangeAt Go.RowKit
open Go.Sy hiding ask
section
instance noDr:Inhabited aF:=⟨⟨False,#[]⟩⟩
section
variable {H:Type} {enc:TypeId×Value->H} {w:World} {base:Nat} {spare:Nat->Bool} {held:Bool} {Fz:Nat->Option AO} {N:Nat}
theorem wI:ef Tryz.prog w base spare held enc Fz N 24 aC aC.enc:=
 ef.map (ef.struct Tryz.underlying24 (by kernel_rfl)
  (.cons (by kernel_rfl) (ef.str Tryz.underlying9) (.cons (by kernel_rfl) (ef.str Tryz.underlying9) (.cons (by kernel_rfl) (ef.str Tryz.underlying9) .nil)))) (fun x=>⟨x.1,x.2.1,x.2.2.1⟩) (fun x=>rfl)
theorem OX:ef Tryz.prog w base spare held enc Fz N 39 eF eF.enc:=
 ef.map (ef.struct Tryz.underlying39 (by kernel_rfl)
  (.cons (by kernel_rfl) (ef.str Tryz.underlying9) (.cons (by kernel_rfl) (ef.bool Tryz.underlying4) (.cons (by kernel_rfl) (ef.bool Tryz.underlying4) (.cons (by kernel_rfl) (ef.bool Tryz.underlying4) (.cons (by kernel_rfl) (ef.bool Tryz.underlying4)
   (.cons (by kernel_rfl) (ef.int Tryz.underlying3) (.cons (by kernel_rfl) (ef.int Tryz.underlying3) (.cons (by kernel_rfl) (ef.int Tryz.underlying3) .nil))))))))) (fun x=>⟨x.1,x.2.1,x.2.2.1,x.2.2.2.1,x.2.2.2.2.1,x.2.2.2.2.2.1,x.2.2.2.2.2.2.1,x.2.2.2.2.2.2.2.1⟩) (fun x=>rfl)
theorem rk:ef Tryz.prog w base spare held enc Fz N 35 ag ag.enc:=
 ef.map (ef.struct Tryz.underlying35 (by kernel_rfl)
  (.cons (by kernel_rfl) (ef.struct Tryz.underlying33 (by kernel_rfl) (.cons (by kernel_rfl) (ef.int Tryz.underlying3) (.cons (by kernel_rfl) (ef.int Tryz.underlying3) .nil))) (.cons (by kernel_rfl) (ef.int Tryz.underlying3) .nil))) (fun x=>⟨x.1.1,x.1.2.1,x.2.1⟩) (fun x=>rfl)
theorem Qn:ef Tryz.prog w base spare held enc Fz N 37 dm (fun s=>[.int .i64 s.wall, .int .i64 s.count, .int .i64 s.dev]):=
 ef.map (ef.struct Tryz.underlying37 (by kernel_rfl)
  (.cons (by kernel_rfl) (ef.int Tryz.underlying3) (.cons (by kernel_rfl) (ef.int Tryz.underlying3) (.cons (by kernel_rfl) (ef.int Tryz.underlying3) .nil)))) (fun x=>⟨x.1,x.2.1,x.2.2.1⟩) (fun x=>rfl)
theorem RU:ef Tryz.prog w base spare held enc (bS Tryz.tab w).get w.heap.size 40 (List ag) (fun L=>[.aJ ag L ag.enc]):=ef.slice Tryz.underlying40 (show Tryz.prog.cellsOf 35=3 by kernel_rfl) (by omega) (fun _=>rfl) rk
theorem Qm:ef Tryz.prog w base spare held enc (bS Tryz.tab w).get w.heap.size 42 aa aa.enc:=
 ef.map (ef.struct Tryz.underlying42 (by kernel_rfl)
  (.cons (by kernel_rfl) rk (.cons (by kernel_rfl) Qn (.cons (by kernel_rfl) (ef.int Tryz.underlying3) (.cons (by kernel_rfl) wI (.cons (by kernel_rfl) OX (.cons (by kernel_rfl) RU .nil))))))) (fun x=>⟨x.1,x.2.1,x.2.2.1,x.2.2.2.1,x.2.2.2.2.1,x.2.2.2.2.2.1⟩) (fun x=>rfl)
theorem mK:ef Tryz.prog w base spare held enc (bS Tryz.tab w).get w.heap.size 22 (List aa) (fun L=>[.aJ aa L aa.enc]):=ef.slice Tryz.underlying22 (show Tryz.prog.cellsOf 42=19 by kernel_rfl) (by omega) (fun _=>rfl) Qm
theorem KF {b0:Nat} {r:Reach} {v:Value} {d:DataW H} {p:List MemPlace} (hv:Value.okWide Tryz.prog w r b0 22 v) (h:DataW.Trod enc Tryz.prog w base spare held 22 v d p):
  ∃l:List aa,fa w l v:=by
 obtain⟨a,n,c,rfl⟩:=okWide_slice Tryz.underlying22 hv;obtain⟨fuel,hf⟩:=h;obtain⟨l,hl⟩:=mK.one _ _ _ hf;exact⟨l,Iw (QR (hl.2 0 _ _ rfl rfl))⟩
end
end
end Go.Proofs.VwL
