/- Part 14: an evaluator, proved sound, and its use at this seat; no condition. -/
import Derived.WalkKit
import Derived.LoopTactic
import Derived.Test.YtmfohfbdddlilaaGreatP13
set_option linter.unusedSimpArgs false
set_option linter.unusedVariables false
set_option linter.unusedSectionVars false
set_option linter.deprecated false
set_option maxRecDepth 100000
set_option maxHeartbeats 40000000
namespace Go.Proofs
open Go Go.Am Go.RowKit Go.Sy Go.Gm Go.Maps Go.Sort Go.Shelf
theorem ZD (w:World) (x y z:Value):∃W1 W2 W3,(w.alloc (.cells #[.slice none 0 0, .slice none 0 0, .slice none 0 0] 45)).setCell ⟨w.heap.size,0,none⟩ x=W1/\W1.setCell ⟨w.heap.size,1,none⟩ y=W2/\W2.setCell ⟨w.heap.size,2,none⟩ z=W3/\
  (w.alloc (.cells #[.slice none 0 0, .slice none 0 0, .slice none 0 0] 45)).cell? ⟨w.heap.size,0,none⟩=some (.slice none 0 0)/\(w.alloc (.cells #[.slice none 0 0, .slice none 0 0, .slice none 0 0] 45)).frozen? ⟨w.heap.size,0,none⟩=false/\W1.cell? ⟨w.heap.size,1,none⟩=some (.slice none 0 0)/\W1.frozen? ⟨w.heap.size,1,none⟩=false/\W2.cell? ⟨w.heap.size,2,none⟩=some (.slice none 0 0)/\W2.frozen? ⟨w.heap.size,2,none⟩=false/\
  W3.heap[w.heap.size]? =some (.cells #[x,y,z] 45 (0,0))/\Below w.heap.size w W3:=by
 have hb:(w.alloc (.cells #[.slice none 0 0, .slice none 0 0, .slice none 0 0] 45)).heap[w.heap.size]? =some (.cells #[.slice none 0 0, .slice none 0 0, .slice none 0 0] 45 (0,0)):=World.alloc_heap_new _ _;obtain⟨W1,W2,W3,e1,e2,e3,c0,f0,c1,f1,c2,f2,g0,g1,g2,hbb,hbel⟩:=MQ hb x y z;have h1:=ry (o:=0) hb x;rw[e1]at h1;have h2:=ry (o:=1) h1 y;rw[e2]at h2;have h3:=ry (o:=2) h2 z;rw[e3]at h3;exact⟨W1,W2,W3,e1,e2,e3,c0,f0,c1,f1,c2,f2,h3,((Below.refl _ _).alloc (Ai _) _).trans (hbel _ (Ai _))⟩
theorem US [Inhabited aL] {w:World} {tmps:Array Value} {ts:Fr} {t b:Nat} {m:aK} {vc vk vd:Value} {fz:Nat×Nat} (h1:tmps[t]? =some (.pointer (some ⟨b,0,none⟩))) (hb:w.heap[b]? =some (.cells #[vc,vk,vd] 45 fz))
  (hc:cK w m.ctx vc) (hk:eW w m.kept vk) (hd:cK w m.dead vd) (h:eU Tryz.tab w tmps ts):eU Tryz.tab w tmps ((t, .cR m.enc 0)::ts):=by
 have hlt:=(Ad.1 hb).1;refine h.put (av:= .ptr b 0) h1 (fun E hE=>by simp[ah,hE b hlt]) ?_;have hg:(bW Tryz.tab w).get b=some (.cells [cU w.heap.size vc,cU w.heap.size vk,cU w.heap.size vd] 45 ((Tryz.tab.siz.get 45).getD 1) false .ro):=by
  rw[uu];unfold kg;rw[hb];rfl
 refine .cR b 0 _ 45 _ false .ro (fun j=>([cU w.heap.size vc,cU w.heap.size vk,cU w.heap.size vd]:List AV)[j]?.getD .bq) hg (Ai 3) (fun j v hj=>?_) (fun j v hj=>?_)
 all_goals
  have hj3:j<3:=(Ae.1 hj).1;match j,hj3 with
  |0,_=>cases hj;first|rfl|exact qo (zC _) (CH hc)
  |1,_=>cases hj;first|rfl|exact qo (wO _) (xG hk)
  |2,_=>cases hj;first|rfl|exact qo (zC _) (CH hd)
section
def pn (c:az):Bool:=decide (c.rules.length<=20)&&c.rules.all fun s=>decide (s.length<=300)
def iV (c:az) (l:List ae):Bool:=pn c&&(bU (Int.ofNat l.length) 30&&l.all iy)
theorem J4 {c:az} (h:¬(c.rules.length<=20/\ ∀s∈c.rules,s.length<=300)):pn c=false:=by
 rw[Ax];intro e;unfold pn at e;rw[Ac,Ab,AJ]at e;exact h ⟨e.1,fun s hs=>Bv (e.2 s hs)⟩
theorem Uk {c:az} (h:pn c=true):uG c:=by
 unfold pn at h;rw[Ac,Ab,AJ]at h;exact⟨by omega,fun s hs=>by have:=Bv (h.2 s hs);omega⟩
section
variable [Inhabited aL]
noncomputable def tk (f:FuncId):Option aM:=bif Nat.beq f oM then some zI else bZ f
theorem XA:∀f C,tk f=some C->CO f C:=bG Jf gO
def LW:aM:={Y:=az×List ae,pre:=fun _=>True,args:=fun y=>[.agg (y.1.enc++[cL y.2])],res:=fun y=> .bool (iV y.1 y.2)}
def Wy (c:az):aH:={α:=Nat,ok:=fun i=>i<=c.rules.length/\ ∀j (h:j<c.rules.length),j<i->c.rules[j].length<=300,μ:=fun i=>c.rules.length - i,aW:=[2,3,4],aN:=fun i=>[(5,i64 i)],bn:=fun _=>[]}
theorem VL:CO OO LW:=bO (cfg:=fun(y:az×List ae)=>cg tk (cr OM 4 (Wy y.1))) bA (fun _=>rfl) (fun _=>XA) (n:=900) (by
 rintro⟨c,l⟩ -
 (conv=>whnf)
 refine aJ (fun h=>?_) fun h20=>?_
 . have h:bw 20 (Int.ofNat c.rules.length)=true:=h;rw[cj,Ab]at h;have h:(20:Int)<(c.rules.length:Int):=h
   (conv=>whnf)
   refine⟨?_,?_⟩
   . show false=iV c l
     unfold iV;rw[J4 fun h'=>by omega];rfl
   . repeat' (first|exact trivial|exact rfl|((conv=>whnf);first|(apply aJ<;>intro)|apply And.intro))
 have hr:c.rules.length<=20:=by
   have h20:bw 20 (Int.ofNat c.rules.length)=false:=h20;rw[cj,Ah]at h20;have h20:¬(20:Int)<(c.rules.length:Int):=h20;omega
 (conv=>whnf)
 refine⟨⟨(0:Nat),⟨Au _,fun j h hj=>absurd hj (Bi _)⟩,?_⟩,?_⟩
 . repeat' (first|exact trivial|exact rfl|((conv=>whnf);first|(apply aJ<;>intro)|apply And.intro))
 rintro(x:Nat) ⟨hx,hx2⟩;have hx:x<=c.rules.length:=hx
 (conv=>whnf)
 refine aJ (fun hlt=>?_) fun hge=>?_
 . have hlt':x<c.rules.length:=cq hlt
   (conv=>whnf)
   refine au.2 ⟨_,cE hlt',?_⟩
   (conv=>whnf)
   refine aJ (fun hs=>?_) fun hs=>?_
   . have hs:=Xx hs
     (conv=>whnf)
     refine⟨?_,?_⟩
     . show false=iV c l
       unfold iV;rw[J4 fun h'=>hs (h'.2 _ (AI hlt'))];rfl
     . repeat' (first|exact trivial|exact rfl|((conv=>whnf);first|(apply aJ<;>intro)|apply And.intro))
   . have hs:=Vz hs
     (conv=>whnf)
     refine af.2 ⟨ch x (by omega),?_⟩
     (conv=>whnf)
     refine⟨(x+1:Nat),⟨hlt',fun j h hj=>?_⟩,by show c.rules.length - (x+1)<c.rules.length - x;omega,?_⟩
     . by_cases e:j=x
       . subst e;exact hs
       . exact hx2 j h (by omega)
     . repeat' (first|exact trivial|exact rfl|((conv=>whnf);first|(apply aJ<;>intro)|apply And.intro))
 . have hge':c.rules.length<=x:=gf hge;have hc:pn c=true:=by
     unfold pn;rw[Bj hr,Bp,AJ];intro s hs;obtain⟨j,hj,rfl⟩:=Bd hs;exact Bj (hx2 j hj (by omega))
   (conv=>whnf)
   refine⟨(l,30),?_⟩
   repeat ((conv=>whnf);first|refine⟨rfl,?_⟩|refine⟨trivial,?_⟩)
   refine⟨by show(30:Int)<=1000000;omega,?_⟩
   (conv=>whnf)
   refine⟨?_,?_⟩
   . show(bU (Int.ofNat l.length) 30&&l.all iy)=iV c l
     unfold iV;rw[hc];rfl
   . repeat' (first|exact trivial|exact rfl|((conv=>whnf);first|(apply aJ<;>intro)|apply And.intro)))
end
def ec (w:World) (c:az) (rv:Value):Prop:=Rd w (fun _=>True) true (.aj Bs c.rules aS) rv
theorem ec.cells {w w':World} {c:az} {rv:Value} (h:ec w c rv) (hc:jJ w w'):ec w' c rv:= @V3 ⟨⟨True,#[]⟩⟩ _ _ _ _ hc _ _ h
theorem ec.one {w:World} {c:az} {rv:Value} (h:ec w c rv):∃a k,rv= .slice a c.rules.length k:=by
 unfold ec at h;generalize hs:SV.aj Bs c.rules aS=s at h
 cases h with
 |fU h0=>cases hs;exact⟨none,0,by rw[h0]⟩
 |cf _ h0 a k=>cases hs;exact⟨a,k,by rw[h0]⟩
 |aj b off cap arr e fz sz u hp hb hz hl hn hc h1 h2=>cases hs;exact⟨_,cap,rfl⟩
 |_=>cases hs
theorem ZB {w:World} {c:az} {l:List ae} {rv ev:Value} (h:ec w c rv) (he:eW w l ev):Rd w (fun _=>True) true (.agg (c.enc++[cL l])) (.agg #[.int .i64 c.aB, .int .i64 c.domain, .int .i64 c.total,rv,ev]):=by
 refine .agg rfl fun i s v hs hv=>?_
 have hi:i<5:=(Ae.1 hs).1;unfold az.enc at hs;match i,hi with
 |0,_|1,_|2,_=>cases hs;cases hv;exact .int _ _
 |3,_=>cases hs;cases hv;exact h
 |4,_=>cases hs;cases hv;exact @xG ⟨⟨True,#[]⟩⟩ _ _ _ he
theorem IK (l:List Bs):Flat (.aj Bs l aS):= .aj fun i x j v _ hv=>by
 cases j with
 |zero=>cases hv;exact .str _
 |succ j=>cases hv
theorem Tm (c:az):∀s∈c.enc,Flat s:=by
 intro s hs;simp only[az.enc,Ak,BN,Dr]at hs;rcases hs with rfl|rfl|rfl|rfl
 . exact .int _ _
 . exact .int _ _
 . exact .int _ _
 . exact IK _
theorem Vl (c:az) (l:List ae):∀s∈c.enc++[cL l],Flat s:=by
 intro s hs;rcases A7.1 hs with hs|hs
 . exact Tm c s hs
 . rcases BE.1 hs with rfl;exact wO l
theorem Pe {w:World} {c:az} {l:List ae} {rv ev:Value} (h:ec w c rv) (he:eW w l ev):Calls Tryz.prog 56 #[.agg #[.int .i64 c.aB, .int .i64 c.domain, .int .i64 c.total,rv,ev]] w fun e w'=>e= .returned (.bool (iV c l))/\Below w.heap.size w w':=
 yf (C:=fun _=>LW) (fun I=> @VL I) (hfn:=rfl) (hb:=rfl) (args:=[.agg #[.int .i64 c.aB, .int .i64 c.domain, .int .i64 c.total,rv,ev]]) (fun I=>⟨(c,l),trivial,PL.cons (@XY I _ _ _ _ _ (Vl c l) _ (ZB h he)) PL.nil,rfl⟩)
section
variable [Inhabited aL]
end
end
section
section
variable [Inhabited aL]
def Mr:aM:={Y:=aK×List bY,pre:=fun y=>fN y.1/\kB y.2,args:=fun y=>[.agg y.1.enc,jd y.2],res:=fun y=> .bool (decide (y.1.kept.length+y.2.length<=2048))}
def YF (l:List bY):aH:={α:=Nat,ok:=fun i=>i<=l.length,μ:=fun i=>l.length - i,aW:=[2,4],aN:=fun i=>[(1,jd l),(5,i64 i)],bn:=fun _=>[]}
theorem Yg:CO GH Mr:=bO (cfg:=fun(y:aK×List bY)=>cg bZ (cr GH 2 (YF y.2))) bA (fun _=>rfl) (fun _=>gO) (n:=600) (by
 rintro⟨m,l⟩ ⟨hm,hl⟩;have hm:fN m:=hm;have hl:kB l:=hl;have hl1:=hl.1
 (conv=>whnf)
 refine⟨⟨(0:Nat),Au _,?_⟩,?_⟩
 . repeat' (first|exact trivial|exact rfl|((conv=>whnf);first|(apply aJ<;>intro)|apply And.intro))
 intro (x:Nat) hx;have hx:x<=l.length:=hx
 (conv=>whnf)
 refine aJ (fun hlt=>?_) fun hge=>?_
 . have hlt':x<l.length:=cq hlt;have hov:=hl.2 l[x] (AI hlt')
   (conv=>whnf)
   refine au.2 ⟨_,cE hlt',?_⟩
   (conv=>whnf)
   refine aJ (fun h=>?_) fun h=>?_
   . exfalso;have h:bw 64 (Int.ofNat l[x].over.length)=true:=h;rw[cj,Ab]at h;have h:(64:Int)<(l[x].over.length:Int):=h;omega
   . (conv=>whnf)
     refine af.2 ⟨ch x (by omega),?_⟩
     (conv=>whnf)
     refine⟨(x+1:Nat),hlt',by show l.length - (x+1)<l.length - x;omega,?_⟩
     repeat' (first|exact trivial|exact rfl|((conv=>whnf);first|(apply aJ<;>intro)|apply And.intro))
 . have hk:=hm.kept
   (conv=>whnf)
   refine af.2 ⟨by
     have e:bp .i64 ((m.kept.length:Int)+(l.length:Int))=true:=by rw[gU];omega
     exact e,?_⟩
   (conv=>whnf)
   refine⟨?_,?_⟩
   . show bU ((m.kept.length:Int)+(l.length:Int)) 2048=decide (m.kept.length+l.length<=2048)
     rw[fi];exact decide_eq_decide.2 (by omega)
   repeat' (first|exact trivial|exact rfl|((conv=>whnf);first|(apply aJ<;>intro)|apply And.intro)))
noncomputable def Gc (f:FuncId):Option aM:=bif Nat.beq f qP then some Jy else bif Nat.beq f GH then some Mr else sT f
theorem Kk (hdr:¬(default:aL).dr):∀f C,Gc f=some C->CO f C:=bG SG (bG Yg (uk hdr))
def Kr:aM:={Y:=aK×List aa,pre:=fun y=>fN y.1/\y.2.length<=10000/\y.1.kept.length<=2000/\(cy y.1 y.2).length<=10000/\y.1.kept.length+(iv (cy y.1 y.2)).length<=2048,args:=fun y=>[.agg y.1.enc,items y.2],res:=fun y=> .bJ [jd (iv (cy y.1 y.2)),i64 0]}
def Uo (m:aK) (l:List aa):aH:={α:=Nat,ok:=fun i=>i<=l.length,μ:=fun i=>l.length - i,aW:=[2,4,5],aN:=fun i=>[(1,items l),(6, .own 1),(7,i64 i)],bn:=fun i=>[(1, .arr ar (cy m (l.take i)) ar.enc Ty.kN)]}
theorem TV (hdr:¬(default:aL).dr):CO qU Kr:=bO (cfg:=fun(y:aK×List aa)=>cg Gc (cr qU 3 (Uo y.1 y.2))) bA (fun _=>rfl) (fun _=>Kk hdr) (n:=900) (by
 rintro⟨m,l⟩ ⟨hm,hl,hk,ha,hroom⟩;have hm:fN m:=hm;have hl:l.length<=10000:=hl;have hk:m.kept.length<=2000:=hk;have ha:(cy m l).length<=10000:=ha;have hroom:m.kept.length+(iv (cy m l)).length<=2048:=hroom
 (conv=>whnf)
 refine⟨⟨(0:Nat),Au _,?_⟩,?_⟩
 . repeat' (first|exact trivial|exact rfl|((conv=>whnf);first|(apply aJ<;>intro)|apply And.intro))
 intro (x:Nat) hx;have hx:x<=l.length:=hx
 (conv=>whnf)
 refine aJ (fun hlt=>?_) fun hge=>?_
 . have hlt':x<l.length:=cq hlt;have hf:=zG (m:=m) hlt';have h1:=JK (m:=m) (l:=l) (i:=x);have h2:=Aq (pf m l[x].key) hk
   (conv=>whnf)
   refine au.2 ⟨_,cE hlt',?_⟩
   (conv=>whnf)
   refine⟨((m,l[x].key):aK×aA),?_⟩
   repeat ((conv=>whnf);first|refine⟨rfl,?_⟩|refine⟨trivial,?_⟩)
   refine⟨hm,?_⟩
   (conv=>whnf)
   refine⟨fun _=>⟨rfl,rfl⟩,kv m l[x].key,rfl,af.2 ⟨rr _ (by show(cy m (l.take x)).length+(kv m l[x].key).length<=600000;omega),?_⟩⟩
   (conv=>whnf)
   refine af.2 ⟨ch x (by omega),?_⟩
   (conv=>whnf)
   refine⟨(x+1:Nat),hlt',by show l.length - (x+1)<l.length - x;omega,?_⟩
   repeat' (first|exact trivial|exact rfl|((conv=>whnf);first|(apply aJ<;>intro)|apply And.intro))
   all_goals ((conv=>whnf);rw[hf])
 . have hge':l.length<=x:=gf hge
   (conv=>whnf)
   refine⟨cy m l,?_⟩
   (conv=>whnf)
   refine⟨by rw[As hge'],?_⟩
   repeat ((conv=>whnf);first|refine⟨rfl,?_⟩|refine⟨trivial,?_⟩)
   refine⟨by show(cy m l).length<=100000;omega,?_⟩
   (conv=>whnf)
   refine⟨(m,iv (cy m l)),?_⟩
   repeat ((conv=>whnf);first|refine⟨rfl,?_⟩|refine⟨trivial,?_⟩)
   refine⟨⟨hm,pW (by omega)⟩,?_⟩;have hfit:decide (m.kept.length+(iv (cy m l)).length<=2048)=true:=Bj hroom
   (conv=>whnf)
   refine aJ (fun h=>?_) fun h=>?_
   . have h:(!decide (m.kept.length+(iv (cy m l)).length<=2048))=true:=h;rw[hfit]at h;cases h
   . repeat' (first|exact trivial|exact rfl|((conv=>whnf);first|(apply aJ<;>intro)|apply And.intro)))
noncomputable def Gd (f:FuncId):Option aM:=bif Nat.beq f qU then some Kr else bif Nat.beq f oO then some qh else bif Nat.beq f lI then some xr else Gc f
theorem Kl (hdr:¬(default:aL).dr):∀f C,Gd f=some C->CO f C:=bG (TV hdr) (bG Kc (bG (L8 (wE (tA hdr))) (Kk hdr)))
end
end
section
section
variable [Inhabited aL]
theorem UY {c:az} {m:aK} {now:Int} (hr:gS (cG m)=true):xX (cG m) (fo (aD c) (cA c) (cG m) now)=jg (cG m) (fo (aD c) (cA c) (cG m) now):=Ub (JS hr) (Lq _ _ _ _)
theorem Xk {c:az} {m:aK} {now:Int} (hr:gS (cG m)=true):(fL c m now).2=eL c:=by
 by_cases hc:eL c=0
 . have e:=MA (l:=cG m) (now:=now) hc hr;show(gX (c,cG m,now)).2=_
   rw[FA (by rw[e]),hc]
 . have e:=Lz (l:=cG m) (now:=now) hc;show(gX (c,cG m,now)).2=_
   rw[CL (by rw[e];exact hc),e]
def LD:aM:={Y:=az×aK×Int,pre:=fun y=>fN y.2.1/\gS (cG y.2.1)=true/\fO y.1 y.2.1 y.2.2,args:=fun y=>[.agg y.1.enc, .agg y.2.1.enc,i64 y.2.2],res:=fun y=> .bJ [jd (lA y.1 y.2.1 y.2.2),i64 (fL y.1 y.2.1 y.2.2).2]}
theorem VP (hdr:¬(default:aL).dr):CO Hy LD:=bO (cfg:=fun(y:az×aK×Int)=>cg Gd (cS y)) bA (fun _=>rfl) (fun _=>Kl hdr) (n:=900) (by
 rintro⟨c,m,now⟩ ⟨hm,hr,hp⟩;have hm:fN m:=hm;have hr:gS (cG m)=true:=hr;have hp:fO c m now:=hp;have he:=Xk (c:=c) (now:=now) hr
 (conv=>whnf)
 refine⟨c,?_⟩
 repeat ((conv=>whnf);first|refine⟨rfl,?_⟩|refine⟨trivial,?_⟩)
 refine⟨hp.rules,?_⟩
 (conv=>whnf)
 refine aJ (fun h=>?_) fun h=>?_
 . have h:(!decide (eL c=0))=true:=h;have hne:eL c≠0:=by simpa using h
   have hb:lA c m now=[]:=Xj (by rw[he];exact hne)
   (conv=>whnf)
   refine⟨hb.symm▸rfl,?_⟩
   (conv=>whnf)
   refine⟨he.symm,?_⟩
   repeat' (first|exact trivial|exact rfl|((conv=>whnf);first|(apply aJ<;>intro)|apply And.intro))
 . have h:(!decide (eL c=0))=false:=h;have hz:eL c=0:=by simpa using h
   have h1c:=Tq hz
   (conv=>whnf)
   refine⟨m,?_⟩
   repeat ((conv=>whnf);first|refine⟨rfl,?_⟩|refine⟨trivial,?_⟩)
   refine⟨hm,?_⟩
   (conv=>whnf)
   refine⟨(c,cG m,now),?_⟩
   repeat ((conv=>whnf);first|refine⟨rfl,?_⟩|refine⟨trivial,?_⟩)
   refine⟨⟨by show 0<=c.domain;omega,by show 0<=c.total;omega,hp.iH⟩,?_⟩;have hg:xX (cG m) (fo (aD c) (cA c) (cG m) now)=(fL c m now).1:=by rw[UY hr,(Zw hr (by rw[he];exact hz)).2]
   have hgl:(fL c m now).1.length<=10000:=Aq (Fy _) hp.iH
   (conv=>whnf)
   refine⟨((m,(fL c m now).1):aK×List aa),?_⟩
   repeat ((conv=>whnf);first|refine⟨rfl,?_⟩|refine⟨trivial,?_⟩)
   (conv=>whnf)
   refine⟨Ap (fun a=>SV.aj aa a aa.enc) hg,?_⟩
   repeat ((conv=>whnf);first|refine⟨rfl,?_⟩|refine⟨trivial,?_⟩)
   refine⟨⟨hm,hgl,hp.one,hp.cw,hp.room⟩,?_⟩
   (conv=>whnf)
   refine⟨rfl,?_⟩
   (conv=>whnf)
   refine⟨(he.trans hz).symm,?_⟩
   repeat' (first|exact trivial|exact rfl|((conv=>whnf);first|(apply aJ<;>intro)|apply And.intro)))
def Mx:aM:={Y:=List bY,pre:=kB,args:=fun y=>[jd y,jd y],res:=fun _=> .bool true}
def YJ (y:List bY):aH:={α:=Nat,ok:=fun i=>i<=y.length,μ:=fun i=>y.length - i,aW:=[],aN:=fun i=>[(0,jd y),(1,jd y),(5,i64 i)],bn:=fun _=>[]}
theorem Yx:CO GI Mx:=bO (cfg:=fun y=>cg pt (cr GI 4 (YJ y))) bA (fun _=>rfl) (fun _=>qf) (n:=900) (by
 intro (y:List bY) (hy:kB y);have hl:=hy.1
 (conv=>whnf)
 refine aJ (fun h=>?_) fun _=>?_
 . exfalso;have h:(!(Int.ofNat y.length==Int.ofNat y.length))=true:=h;simp at h
 (conv=>whnf)
 refine⟨⟨(0:Nat),Au _,?_⟩,?_⟩
 . repeat' (first|exact trivial|exact rfl|((conv=>whnf);first|(apply aJ<;>intro)|apply And.intro))
 intro (x:Nat) hx;have hx:x<=y.length:=hx
 (conv=>whnf)
 refine aJ (fun hlt=>?_) fun hge=>?_
 . have hlt':x<y.length:=cq hlt;have hov:=hy.2 y[x] (AI hlt')
   (conv=>whnf)
   refine au.2 ⟨_,cE hlt',?_⟩
   (conv=>whnf)
   refine au.2 ⟨_,cE hlt',?_⟩
   (conv=>whnf)
   refine ag.2 ⟨fun h=>absurd (show(!(y[x].kind==y[x].kind))=true from h) (by simp),fun _=>?_⟩
   (conv=>whnf)
   refine au.2 ⟨_,cE hlt',?_⟩
   (conv=>whnf)
   refine au.2 ⟨_,cE hlt',?_⟩
   (conv=>whnf)
   refine ag.2 ⟨fun h=>absurd h (by simp),fun _=>?_⟩
   (conv=>whnf)
   refine au.2 ⟨_,cE hlt',?_⟩
   (conv=>whnf)
   refine au.2 ⟨_,cE hlt',?_⟩
   (conv=>whnf)
   refine⟨(y[x].over,y[x].over),?_⟩
   repeat ((conv=>whnf);first|refine⟨rfl,?_⟩|refine⟨trivial,?_⟩)
   refine⟨⟨by show y[x].over.length<=1000000;omega,by show y[x].over.length<=1000000;omega⟩,?_⟩
   (conv=>whnf)
   refine ag.2 ⟨fun h=>absurd h (by simp),fun _=>?_⟩
   (conv=>whnf)
   refine af.2 ⟨ch x (by omega),?_⟩
   (conv=>whnf)
   refine⟨(x+1:Nat),hlt',by show y.length - (x+1)<y.length - x;omega,?_⟩
   repeat' (first|exact trivial|exact rfl|((conv=>whnf);first|(apply aJ<;>intro)|apply And.intro))
 . repeat' (first|exact trivial|exact rfl|((conv=>whnf);first|(apply aJ<;>intro)|apply And.intro)))
end
end
theorem RB {G:bD} {l:List ae} (g:cV G (foldM l)) (hl:∀e∈l,iy e=true):uO (cG (foldM l)):=by
 letI:Inhabited aL:=⟨⟨True,#[]⟩⟩
 intro x hx;obtain⟨e,he,rfl⟩:=Av.1 hx;obtain⟨k,hk,rfl⟩:=(IU g e).1 he;have h1:=Lk l (AE.1 (dX.1 (tN hk)).1).1;have h2:=hl _ h1;simp only[iy,Ac,fi,Ab,Aa]at h2;show(dV (foldM l) k).1.key.domain.length<=1000000
 omega
theorem UR [Inhabited aL] {w:World} {tmps:Array Value} {ts:Fr} {t b:Nat} {c:az} {l:List ae} {rv ev:Value} {fz:Nat×Nat} (h1:tmps[t]? =some (.pointer (some ⟨b,0,none⟩))) (hb:w.heap[b]? =some (.cells #[.int .i64 c.aB, .int .i64 c.domain, .int .i64 c.total,rv,ev] 89 fz))
  (hr:ec w c rv) (he:eW w l ev) (h:eU Tryz.tab w tmps ts):eU Tryz.tab w tmps ((t, .cR (c.enc++[cL l]) 0)::ts):=by
 have hlt:=(Ad.1 hb).1;refine h.put (av:= .ptr b 0) h1 (fun E hE=>by simp[ah,hE b hlt]) ?_;have hg:(bW Tryz.tab w).get b=some (.cells [.int .i64 c.aB, .int .i64 c.domain, .int .i64 c.total,cU w.heap.size rv,cU w.heap.size ev] 89 ((Tryz.tab.siz.get 89).getD 1) false .ro):=by
  rw[uu];unfold kg;rw[hb];rfl
 refine .cR b 0 _ 89 _ false .ro (fun j=>([.int .i64 c.aB, .int .i64 c.domain, .int .i64 c.total,cU w.heap.size rv,cU w.heap.size ev]:List AV)[j]?.getD .bq) hg (Ai 5) (fun j v hj=>?_) (fun j v hj=>?_)
 all_goals
  have hj3:j<5:=(Ae.1 hj).1;unfold az.enc at hj;match j,hj3 with
  |0,_|1,_|2,_=>cases hj;first|rfl|exact .int _ _
  |3,_=>cases hj;first|rfl|exact qo (IK _) hr
  |4,_=>cases hj;first|rfl|exact qo (wO _) (xG he)
theorem Uh [Inhabited aL] {w:World} {c:az} {l:List ae} {v:Value} (h:Rd w (fun _=>True) true (.agg (c.enc++[cL l])) v):∃rv ev,v= .agg #[.int .i64 c.aB, .int .i64 c.domain, .int .i64 c.total,rv,ev]/\ec w c rv/\eW w l ev:=by
 cases h with
 | @agg cs vs h1 h2=>
  obtain⟨vl⟩:=vs;match vl,h1 with
  |[a,b,d,rv,ev],_=>
   have k0:=iN (h2 0 (.int .i64 c.aB) a rfl rfl);have k1:=iN (h2 1 (.int .i64 c.domain) b rfl rfl);have k2:=iN (h2 2 (.int .i64 c.total) d rfl rfl);subst k0;subst k1;subst k2;exact⟨rv,ev,rfl,h2 3 _ _ rfl rfl,MB (h2 4 (cL l) _ rfl rfl)⟩
section
section
variable [Inhabited aL]
noncomputable def Ni (f:FuncId):Option aM:=bif Nat.beq f Gs then some FT else bif Nat.beq f Hd then some LC else bif Nat.beq f G9 then some KX else bif Nat.beq f rn then some Kt else bif Nat.beq f Hy then some LD else bif Nat.beq f GI then some Mx else bif Nat.beq f mG then some xk else bif Nat.beq f lG then some lv else bif Nat.beq f rf then some FZ else Gd f
theorem Vx (hdr:¬(default:aL).dr) (ha:CO rf FZ):∀f C,Ni f=some C->CO f C:=bG (MK hdr) (bG (VO hdr) (bG (TT hdr) (bG (TY hdr) (bG (VP hdr) (bG Yx (bG (Cv hdr) (bG Kd (bG ha (Kl hdr)))))))))
theorem V6 {b:Nat} {c:az} {m:aK} {l:List ae} {now:Int} {d:Bs} (hok:fN m) (hkp:m.kept.length<=30) (hS:cD b m) (hp:fO c m now) (hr:gS (cG m)=true):
  wp (cg Ni (fun _ _=>none)) 2000 ⟨OB,117,0,[.code (spine 3 (Tryz.f11.body.getD .skip))],⟨[(1,i64 now),(2, .str d),(3, .cR (c.enc++[cL l]) 0),(7, .wp ⟨b,0,none⟩),(8, .cR m.enc 0)],⟨0,[]⟩,[]⟩⟩ vv:=by
 have hil:(cG m).length<=30:=Aq (ud m) hkp;have hsl:(fY m).length<=30:=Aq (AF _ _) hil;have hdl:(eZ (cG m) d).length<=30:=Aq (AF _ _) hil;have hal:∀{gs:List aa},gs.length<=30->(cy m gs).length<=900:=fun h=>ug (fun k=>Aq (pf m k) hkp) h
 have hrm:∀{gs:List aa},gs.length<=30->(iv (cy m gs)).length<=900:=fun h=>Aq (tP _) (hal h)
 have hpre:∀{gs:List aa},gs.length<=30->fN m/\gs.length<=10000/\m.kept.length<=2000/\(cy m gs).length<=10000/\m.kept.length+(iv (cy m gs)).length<=2048:=fun h=>⟨hok,by omega,by omega,by have:=hal h;omega,by have:=hrm h;omega⟩
 have h1:=hal hsl;have h2:=hal hdl;have h3:=hp.cw
 (conv=>whnf)
 refine⟨(b,m),?_⟩
 repeat ((conv=>whnf);first|refine⟨rfl,?_⟩|refine⟨trivial,?_⟩)
 refine⟨⟨hS,by show m.kept.length<=40;omega⟩,?_⟩
 (conv=>whnf)
 refine⟨(c,(b,m),now),?_⟩
 repeat ((conv=>whnf);first|refine⟨rfl,?_⟩|refine⟨trivial,?_⟩)
 refine⟨⟨hS,hp⟩,?_⟩
 (conv=>whnf)
 refine⟨((b,m),d),?_⟩
 repeat ((conv=>whnf);first|refine⟨rfl,?_⟩|refine⟨trivial,?_⟩)
 refine⟨⟨hS,by show m.kept.length<=40;omega⟩,?_⟩
 (conv=>whnf)
 refine⟨m,?_⟩
 repeat ((conv=>whnf);first|refine⟨rfl,?_⟩|refine⟨trivial,?_⟩)
 refine⟨hok,?_⟩
 (conv=>whnf)
 refine⟨((m,fY m):aK×List aa),?_⟩
 repeat ((conv=>whnf);first|refine⟨rfl,?_⟩|refine⟨trivial,?_⟩)
 refine⟨hpre hsl,?_⟩
 (conv=>whnf)
 refine⟨(c,m,now),?_⟩
 repeat ((conv=>whnf);first|refine⟨rfl,?_⟩|refine⟨trivial,?_⟩)
 refine⟨⟨hok,hr,hp⟩,?_⟩
 (conv=>whnf)
 refine⟨m,?_⟩
 repeat ((conv=>whnf);first|refine⟨rfl,?_⟩|refine⟨trivial,?_⟩)
 refine⟨hok,?_⟩
 (conv=>whnf)
 refine⟨(cG m,d),?_⟩
 repeat ((conv=>whnf);first|refine⟨rfl,?_⟩|refine⟨trivial,?_⟩)
 refine⟨by show(cG m).length<=10000;omega,?_⟩
 (conv=>whnf)
 refine⟨((m,eZ (cG m) d):aK×List aa),?_⟩
 repeat ((conv=>whnf);first|refine⟨rfl,?_⟩|refine⟨trivial,?_⟩)
 refine⟨hpre hdl,?_⟩
 (conv=>whnf)
 refine ag.2 ⟨fun _=>?_,fun h=>absurd h (by simp)⟩
 (conv=>whnf)
 refine⟨jn m,?_⟩
 repeat ((conv=>whnf);first|refine⟨rfl,?_⟩|refine⟨trivial,?_⟩)
 refine⟨pW (by omega),?_⟩
 (conv=>whnf)
 refine⟨lA c m now,?_⟩
 repeat ((conv=>whnf);first|refine⟨rfl,?_⟩|refine⟨trivial,?_⟩)
 refine⟨pW (by omega),?_⟩
 (conv=>whnf)
 refine⟨si m d,?_⟩
 repeat ((conv=>whnf);first|refine⟨rfl,?_⟩|refine⟨trivial,?_⟩)
 refine⟨pW (by omega),?_⟩
 (conv=>whnf)
 refine⟨some (b,m),?_⟩
 repeat ((conv=>whnf);first|refine⟨rfl,?_⟩|refine⟨trivial,?_⟩)
 refine⟨hS,?_⟩
 (conv=>whnf)
 refine⟨m,?_⟩
 repeat ((conv=>whnf);first|refine⟨rfl,?_⟩|refine⟨trivial,?_⟩)
 refine⟨hok,?_⟩
 (conv=>whnf)
 refine⟨(fY m,fY m),?_⟩
 repeat ((conv=>whnf);first|refine⟨rfl,?_⟩|refine⟨trivial,?_⟩)
 refine⟨⟨by show(fY m).length<=10000;omega,by show(fY m).length<=10000;omega⟩,?_⟩
 (conv=>whnf)
 refine ag.2 ⟨fun _=>?_,fun h=>absurd (show decide (fY m=fY m)=false from h) (by simp)⟩
 (conv=>whnf)
 refine⟨(),?_⟩
 repeat ((conv=>whnf);first|refine⟨rfl,?_⟩|refine⟨trivial,?_⟩)
 repeat' (first|exact trivial|exact rfl|((conv=>whnf);first|(apply aJ<;>intro)|apply And.intro))
end
end
theorem OS {c:az} {l:List ae} {rv ev:Value} {now:Int} {d:Bs} {w:World} (hr:ec w c rv) (hv:eW w l ev) (ha:∀w,Calls Tryz.prog 27 #[] w fun e w'=>e= .returned (.bool true)/\Below w.heap.size w w'):
  Calls Tryz.prog 11 #[.agg #[.int .i64 c.aB, .int .i64 c.domain, .int .i64 c.total,rv,ev], .int .i64 now, .string ⟨d.toArray⟩] w fun e w'=>e= .returned (.bool true)/\Below w.heap.size w w':=by
 obtain⟨ra,rk,rfl⟩:=hr.one;obtain⟨sa,sc,rfl⟩:=hv.one;obtain⟨W,hW⟩:∃W,w.alloc (.cells #[.int .i64 c.aB, .int .i64 c.domain, .int .i64 c.total, .slice ra c.rules.length rk, .slice sa l.length sc] 89)=W:=⟨_,rfl⟩;have hbW:Below w.heap.size w W:=by rw[<-hW];exact(Below.refl _ _).alloc (Ai _) _
 have hbb:W.heap[w.heap.size]? =some (.cells #[.int .i64 c.aB, .int .i64 c.domain, .int .i64 c.total, .slice ra c.rules.length rk, .slice sa l.length sc] 89 (0,0)):=by rw[<-hW];exact World.alloc_heap_new _ _
 have d0:=cell_of (o:=0) hbb;have d1:=cell_of (o:=1) hbb;have d2:=cell_of (o:=2) hbb;have d3:=cell_of (o:=3) hbb;have d4:=cell_of (o:=4) hbb;simp only[A0,Bn,Bo]at d0 d1 d2 d3 d4;have hrW:=hr.cells (ep hbW);have hvW:=hv.cells (ep hbW);have hlight:=Pe hrW hvW;refine Ik Tryz.func11 rfl ?_;simp only[Tryz.ntmps11,BD,Az,AG,Nat.reduceAdd,Nat.reduceSub,Dw,Dv,DN,DB,BS,BO];refine fJ.next Tryz.func11 ?_;go_wp2;show fJ _ _ _ _ _ _
 refine fJ.next Tryz.func11 ?_
 cases hL:iV c l with
 |false=>
  rw[hL]at hlight;go_wp2_with (first|(go_at_call 56;refine hlight.mono ?_;rintro e w1 ⟨rfl,hb1⟩;have ha1:=ha w1)|(go_at_call 27;refine ha1.mono ?_;rintro e w2 ⟨rfl,hb2⟩))
  refine I8 (results_tmp rfl _ _ _) rfl ?_;exact⟨rfl,(hbW.trans (hb1.mono hbW.size)).trans (hb2.mono (Aq hbW.size hb1.size))⟩
 |true=>
  rw[hL]at hlight;have hL2:pn c=true/\(bU (Int.ofNat l.length) 30&&l.all iy)=true:=by
    unfold iV at hL;exact(Ac _ _).mp hL
  obtain⟨hl30,hlt⟩:= @U6 ⟨⟨True,#[]⟩⟩ l hL2.2;by_cases q1:2000<(d.length:Int)
  . have e1:decide (2000<(d.length:Int))=true:=Bj q1;clear q1;go_wp2_with (first|(go_at_call 56;refine hlight.mono ?_;rintro e w1 ⟨rfl,hb1⟩;have ha1:=ha w1)|(go_at_call 27;refine ha1.mono ?_;rintro e w2 ⟨rfl,hb2⟩))
    refine I8 (results_tmp rfl _ _ _) rfl ?_;exact⟨rfl,(hbW.trans (hb1.mono hbW.size)).trans (hb2.mono (Aq hbW.size hb1.size))⟩
  have e1:decide (2000<(d.length:Int))=false:=Bq q1;clear q1;go_wp2_with (first|(go_at_call 56;refine hlight.mono ?_;rintro e w1 ⟨rfl,hb1⟩))
  show fJ _ _ _ _ _ _
  refine fJ.next Tryz.func11 ?_;have hbb1:=(hb1.block _ (Ad.1 hbb).1).trans hbb;have c4:=eg d4 (hb1.block _ (iA d4));have hr1:=hrW.cells (ep hb1);have hv1:=hvW.cells (ep hb1);have hmade:=Qi hv1 hlt hl30;clear hlight d0 d1 d2 d3 d4 hW;go_wp2_with (first|(go_at_call 28;refine hmade.mono ?_;rintro e w2 ⟨b,bk,ba,bd,bs,bv,G,u,rfl,hO,hg,⟨vc,vk,vd,rfl,hm1,hm2,hm3⟩,hb2⟩;obtain⟨ca,na,pa,rfl⟩:=hm1.one;obtain⟨ck,pk,rfl⟩:=hm2.one;obtain⟨cd,nd,pd,rfl⟩:=hm3.one;obtain⟨W1,W2,W3,e1,e2,e3,c0,f0,c1,f1,c2,f2,hbx,hbel⟩:=ZD w2 (.slice ca na pa) (.slice ck (foldM l).kept.length pk) (.slice cd nd pd)))
  show fJ _ _ _ _ _ _
  have hbd:fp (foldM l) l.length:=by
    have hb:= @rz ⟨⟨True,#[]⟩⟩ l hlt.2 l.length (Ai _);rwa [Bu]at hb
  have hok:fN (foldM l):= @fp.ok ⟨⟨True,#[]⟩⟩ _ _ hbd (by omega);have hkp:=hbd.kept;have hO3:=hO.below hbel;have hS:=Jd hO3 hg hlt;have hst12:=ep hb2;have hst:=(ep hbel);have hr3:=(hr1.cells hst12).cells hst;have hil:(cG (foldM l)).length<=30:=Aq (@ud ⟨⟨True,#[]⟩⟩ _) (by omega);have hpl:∀gs:List aa,gs.length<=30->(cy (foldM l) gs).length<=900:=fun gs h=>ug (m:=foldM l) (a:=30) (b:=30) (fun k=>Aq (@pf ⟨⟨True,#[]⟩⟩ _ k) (by omega)) h
  have hel:(fL c (foldM l) now).1.length<=30:=Aq (@Fy ⟨⟨True,#[]⟩⟩ _) hil;have hpo:fO c (foldM l) now:=⟨Uk hL2.1,by omega,RB hg hlt.2,by have:=hpl _ hel;omega,by omega,by have:=hpl _ hel;have:=tP (cy (foldM l) (fL c (foldM l) now).1);unfold lA;omega⟩;have hv3:=(hv1.cells hst12).cells hst;have hbb3:=(hbel.block _ (AP (Ad.1 hbb1).1 hb2.size)).trans ((hb2.block _ (Ad.1 hbb1).1).trans hbb1);have hB1:Below w.heap.size w w1:=hbW.trans (hb1.mono hbW.size);have hB2:Below w.heap.size w w2:=hB1.trans (hb2.mono hB1.size);have hB3:Below w.heap.size w W3:=hB2.trans (hbel.mono hB2.size);have u1:=hm1.cells hst;have u2:=hm2.cells hst;have u3:=hm3.cells hst;letI:Inhabited aL:=pz W3
  have hlaw:=V6 (l:=l) (d:=d) hok (by omega) hS hpo (Rj hg);refine fJ.mono (HT (n:=2000) (c:=spine 3 (Tryz.f11.body.getD .skip)) bA rfl (Vx (CX W3) (YU (CX W3) ha)) rfl hlaw ?_ (KV W3)) ?_
  . exact .cons rfl (.int _ _) (.cons rfl (.str _) (UR rfl hbb3 hr3 hv3 (.cons rfl (.wp _) (US rfl hbx u1 u2 u3 .nil))))
  . rintro e w' ⟨rfl,hb'⟩;exact⟨rfl,hB3.trans (hb'.mono hB3.size)⟩
section
def GU:aA:=⟨[110],[97,46,116,101,115,116],[47]⟩
def yF:ae:=⟨⟨0,1,1⟩,⟨0,0,0⟩,1,GU,⟨[],false,false,false,false,1099511627776,0,0⟩,[]⟩
def te:List ae:=[yF]
theorem jT:sm te:=⟨by decide,by decide+kernel⟩
theorem YC:jn (foldM te)=[ig [⟨0,1,1⟩]]:=by kernel_rfl
theorem UG:fY (foldM te)=[⟨GU,yF.ab⟩]:=by kernel_rfl
section
variable [Inhabited aL]
noncomputable def Nf (f:FuncId):Option aM:=bif Nat.beq f Gs then some FT else bif Nat.beq f mG then some xk else sT f
theorem Vt (hdr:¬(default:aL).dr):∀f C,Nf f=some C->CO f C:=bG (MK hdr) (bG (Cv hdr) (uk hdr))
theorem V5 {b:Nat} {m:aK} {x:aa} {d:ar} (hS:cD b m) (hk:m.kept.length<=40) (hE:jn m=[ig [d]]) (hI:fY m=[x]):wp (cg Nf (fun _ _=>none)) 2000
  ⟨rf,38,0,[.code (spine 3 (Tryz.f27.body.getD .skip))],⟨[(1, .wp ⟨b,0,none⟩)],⟨0,[]⟩,[]⟩⟩ vv:=by
 have hI':fY (Mp.m (some (b,m)))=[x]:=hI;have hE':jn ((b,m):Nat×aK).2=[ig [d]]:=hE
 (conv=>whnf)
 refine⟨(b,m),?_⟩
 repeat ((conv=>whnf);first|refine⟨rfl,?_⟩|refine⟨trivial,?_⟩)
 refine⟨⟨hS,hk⟩,?_⟩
 (conv=>whnf)
 refine ag.2 ⟨fun _=>?_,fun h=>absurd h (by rw[hE'];simp)⟩
 (conv=>whnf)
 refine au.2 ⟨ig [d],by rw[hE'];rfl,?_⟩
 (conv=>whnf)
 refine⟨some (b,m),?_⟩
 repeat ((conv=>whnf);first|refine⟨rfl,?_⟩|refine⟨trivial,?_⟩)
 refine⟨hS,?_⟩
 (conv=>whnf)
 rw[hI'];rfl
end
theorem On (w:World):Calls Tryz.prog 27 #[] w fun e w'=>e= .returned (.bool true)/\Below w.heap.size w w':=by
 refine Ik Tryz.func27 rfl ?_;simp only[Tryz.ntmps27,BD,Az,AG,Nat.reduceAdd,Nat.reduceSub,Dw,Dv,DN,DB,BS,BO];refine fJ.next Tryz.func27 ?_;go_wp2;show fJ _ _ _ _ _ _
 refine fJ.next Tryz.func27 ?_;have hnew:=HP w;go_wp2_with (go_at_call 14;refine hnew.mono ?_;rintro e w1 ⟨b,bk,ba,bd,bs,bv,rfl,hO,hb1⟩)
 show fJ _ _ _ _ _ _
 have happ1:=Tryz.apply hO cV.start hb1.size (e:=yF) (u:=(.agg #[.int .i64 0, .int .i64 1, .int .i64 1, .int .i64 0, .int .i64 0, .int .i64 0, .int .i64 1, .string ⟨#[110]⟩, .string ⟨#[97,46,116,101,115,116]⟩, .string ⟨#[47]⟩, .string ⟨#[]⟩, .bool false, .bool false, .bool false, .bool false, .int .i64 1099511627776, .int .i64 0, .int .i64 0, .slice none 0 0])) ⟨.slice none 0 0,rfl, .inl ⟨rfl,none,0,rfl⟩⟩ ⟨by decide,by decide⟩ (by decide) NP;refine fJ.next Tryz.func27 ?_;go_wp2_with (go_at_call 15;refine happ1.mono ?_;rintro e w2 ⟨rfl,hb2,hc2,G2,hO2,hg2⟩)
 show fJ _ _ _ _ _ _
 have hS:=Jd (l:=te) hO2 hg2 jT;letI:Inhabited aL:=pz w2
 have hk:(foldM te).kept.length<=40:=by
   have hb:=rz jT.2 1 (by decide);have:=hb.kept;exact Aq this (by decide)
 refine fJ.mono (HT (n:=2000) (c:=spine 3 (Tryz.f27.body.getD .skip)) bA rfl (Vt (CX w2)) rfl (V5 hS hk YC UG) ?_ (KV w2)) ?_
 . exact .cons rfl (.wp _) .nil
 . rintro e w' ⟨rfl,hb'⟩;exact⟨rfl,(hb1.trans hb2).trans (hb'.mono (Aq hb1.size hb2.size))⟩
end
end Go.Proofs
